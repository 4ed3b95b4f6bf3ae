/- Part of the proof of CallingFills: engine, contracts or law, joined by a program from the texts S2 S3 S4 S5 S6 S7 D1 S8 D2 D3 S9 S11 D4. -/
import Derived.Test.YtlcechkalldhfaaGreatDoorKaa
set_option linter.all false
set_option maxRecDepth 100000
namespace Go.En
def n5(g:Option Bool)(ok:Bool):Bool:=match g with
 |none=>ok
 |some b=> !b||ok
def im(nt:Nat)(d:Option Nat)(g:Option Bool)(s:St)(r:O)(K:Bool):Option St:=
 aQ (rG (cF nt d)) fun _=>aQ (rG (n5 g (r.ok&&K))) fun _=>some ⟨bJ s.tm d (m8 g r.v),s.hp⟩
def CQ(nt:Nat)(d:Option Nat)(g:Option Bool)(s:St)(K:Bool):Option St:=
 aQ (rG (cF nt d)) fun _=>aQ (rG (n5 g K)) fun _=>if g.getD true=true then none else some ⟨bJ s.tm d (.gd false .undef),s.hp⟩
def HK(nt:Nat)(d:Option Nat)(g:Option Bool)(s:St)(a:A)(K:Bool):Option St:=
 aQ (rG (cF nt d)) fun _=>aQ (rG (n5 g (a.ok&&K))) fun _=>some ⟨bJ s.tm d (m8 g (a.mk s.hp.length)),s.hp++a.obj s.hp.length::a.aux⟩
def Dn(nt:Nat)(d:Option Nat)(free:Bool)(g:Option Bool)(s:St)(r:Option (Hp×AV))(K:Bool):Option St:=
 aQ (rG (cF nt d)) fun _=>aQ (rG (n5 g K)) fun _=>
  if g.getD true=true then if free=true then none else aQ r fun r=>some ⟨bJ s.tm d (m8 g r.2),r.1⟩
  else some ⟨bJ s.tm d (.gd false .undef),s.hp⟩
def p'(nt:Nat)(d:Option Nat)(g:Option Bool)(s:St)(r:Option O)(K:Bool):Option St:=match r with
 |some r=>im nt d g s r K
 |none=>CQ nt d g s K
def jW(x:X)(rd:Hp)(free:Bool)(g:Option Bool)(d:Option Nat)(op:Op)(s:St):Option St:=jP x rd free g ⟨d,op,0, "", #[],none⟩ s
def EZ(ops:List Oper)(j:Nat):Option Nat:=(ops[j]?).bind (·.dst)
def RS(x:X)(rd:Hp)(free:Bool)(w:Bool)(v:AV)(d:Option Nat)(op:Op)(s:St):Option St:=match v with
 | .p (.bool b)=>jW x rd free (some (b==w)) d op s
 | .gd c (.p (.bool b))=>jW x rd free (some (c&&b==w)) d op s
 |_=>none
def Pk(tm:Tm):Option Nat→AV
 |none=>.undef
 |some d=>look tm d
def JN(x:X)(ops:List Oper)(rd:Hp)(free:Bool)(o:Oper)(s:St):Option St:=aQ (guardOf ops s.tm o.guard) fun g=>jP x rd free g o s
@[simp] theorem ac5(o:Oper)(r:List Oper):EZ (o::r) 0=o.dst:=rfl
@[simp] theorem ac6(o:Oper)(r:List Oper)(n:Nat):EZ (o::r) (n+1)=EZ r n:=rfl
@[simp] theorem abW(tm:Tm)(d:Nat):Pk tm (some d)=look tm d:=rfl
@[simp ↓] theorem aqj(x:X)(ops:List Oper)(rd:Hp)(free:Bool)(d:Option Nat)(op:Op)(ty:Nat)(pos:String)(af:Array Edge)(s:St):
   JN x ops rd free ⟨d,op,ty,pos,af,none⟩ s=jW x rd free none d op s:=rfl
@[simp ↓] theorem aqi(x:X)(ops:List Oper)(rd:Hp)(free:Bool)(d:Option Nat)(op:Op)(ty:Nat)(pos:String)(af:Array Edge)(j:Nat)(w:Bool)(s:St):
   JN x ops rd free ⟨d,op,ty,pos,af,some (j,w)⟩ s=RS x rd free w (Pk s.tm (EZ ops j)) d op s:=by
  simp only[JN,guardOf,EZ,RS,jW]
  cases h:(ops[j]?).bind (·.dst) with
  |none=>rfl
  |some k=>
   simp only[Pk]
   cases look s.tm k with
   |p y=>cases y<;>rfl
   |gd c v=>cases v with
    |p y=>cases y<;>rfl
    |_=>rfl
   |_=>rfl
@[simp] theorem apQ(x:X)(rd:Hp)(free w b:Bool)(d:Option Nat)(op:Op)(s:St):RS x rd free w (.p (.bool b)) d op s=jW x rd free (some (b==w)) d op s:=rfl
@[simp] theorem aze(x:X)(rd:Hp)(free w b c:Bool)(d:Option Nat)(op:Op)(s:St):RS x rd free w (.gd c (.p (.bool b))) d op s=jW x rd free (some (c&&b==w)) d op s:=rfl
def Rf(x:X)(ops l:List Oper)(a:Option St):Option St:=aQ a fun s=>vz x ops l s
def LJ(x:X)(ops l:List Oper)(sq:List Nat)(lt:List (Nat×List Nat×List Nat))(j:Nat)(rd:Hp)(a:Option St):Option St:=aQ a fun s=>jf x ops sq lt l j rd s
def LI(x:X)(ops l:List Oper)(sq:List Nat)(lt:List (Nat×List Nat×List Nat))(j:Nat)(a:Option St):Option St:=aQ a fun s=>jf x ops sq lt l j s.hp s
def Ii(x:X)(ops:List Oper)(wid:List Nat)(o:Oper)(s:St):Option St:=aQ (guardOf ops s.tm o.guard) fun g=>oX x wid g o s
def uP(W:List Nat)(a b:Nat):Bool:=W.all fun wid=>decide (wid<a∨b≤wid)
@[simp] theorem aeV(a b:Nat):uP [] a b=true:=rfl
@[simp] theorem XN(w:Nat)(W:List Nat)(a b:Nat):uP (w::W) a b=(decide (w<a∨b≤w)&&uP W a b):=rfl
def me:List (Nat×List Nat×List Nat)→Nat→Nat→Nat→Bool
 |[],_,_,_=>true
 |(_,W,an)::r,j,a,b=>if an.contains j=true then me r j a b else uP W a b&&me r j a b
@[simp] theorem aeW(j a b:Nat):me [] j a b=true:=rfl
@[simp] theorem XO(k:Nat)(W an:List Nat)(r:List (Nat×List Nat×List Nat))(j a b:Nat):me ((k,W,an)::r) j a b=if an.contains j=true then me r j a b else uP W a b&&me r j a b:=rfl
theorem A3:∀(lt:List (Nat×List Nat×List Nat)) (j a b:Nat),lW lt j a b=me lt j a b
 |[],_,_,_=>rfl
 |(k,W,an)::r,j,a,b=>by
  simp only[lW,me,A3 r,uP]
  cases an.contains j<;>simp
def MX(lt:List (Nat×List Nat×List Nat))(j a:Nat)(r:Option St):Option St:=aQ r fun s=>if me lt j a s.hp.length=true then some s else none
@[simp] theorem an3(lt:List (Nat×List Nat×List Nat))(j a:Nat)(s:St):MX lt j a (some s)=if me lt j a s.hp.length=true then some s else none:=rfl
def yF(h:Hp):List Nat→Hp
 |[]=>h
 |i::W=>yF (h.set i .dead) W
@[simp] theorem air(h:Hp):yF h []=h:=rfl
@[simp] theorem adv(h:Hp)(i:Nat)(W:List Nat):yF h (i::W)=yF (h.set i .dead) W:=rfl
theorem Ft:∀(W:List Nat) (h:Hp),eY h W (W.map fun _=>.dead)=yF h W
 |[],_=>rfl
 |_::W,_=>Ft W _
def oY:List (Nat×List Nat×List Nat)→Nat→Hp→Hp
 |[],_,h=>h
 |(_,W,an)::r,j,h=>if an.contains j=true then oY r j h else oY r j (yF h W)
@[simp] theorem ais(j:Nat)(h:Hp):oY [] j h=h:=rfl
@[simp] theorem adw(k:Nat)(W an:List Nat)(r:List (Nat×List Nat×List Nat))(j:Nat)(h:Hp):oY ((k,W,an)::r) j h=if an.contains j=true then oY r j h else oY r j (yF h W):=rfl
theorem Fu:∀(lt:List (Nat×List Nat×List Nat)) (j:Nat) (h:Hp),iz lt j h=oY lt j h
 |[],_,_=>rfl
 |(k,W,an)::r,j,h=>by simp only[iz,oY,Fu r,Ft]
@[simp] theorem acq(j:Nat):cQ [] j=none:=rfl
@[simp] theorem Wy(k:Nat)(W an:List Nat)(r:List (Nat×List Nat×List Nat))(j:Nat):cQ ((k,W,an)::r) j=if j=k then some W else cQ r j:=rfl
@[simp] theorem auH(x:X)(ops:List Oper)(s:St):Rf x ops [] (some s)=some s:=rfl
@[simp] theorem apK(x:X)(ops:List Oper)(o:Oper)(r:List Oper)(s:St):Rf x ops (o::r) (some s)=Rf x ops r (JN x ops s.hp false o s):=by
  simp only[Rf,aN,vz,JN]
  cases guardOf ops s.tm o.guard<;>rfl
@[simp] theorem auI(x:X)(ops:List Oper)(sq:List Nat)(lt:List (Nat×List Nat×List Nat))(j:Nat)(rd:Hp)(s:St):LJ x ops [] sq lt j rd (some s)=some s:=rfl
@[simp] theorem apP(x:X)(ops:List Oper)(o:Oper)(r:List Oper)(sq:List Nat)(j:Nat)(rd:Hp)(s:St):
   LJ x ops (o::r) sq [] j rd (some s)=if sq.contains j=true then LI x ops r sq [] (j+1) (JN x ops s.hp false o s) else LJ x ops r sq [] (j+1) rd (JN x ops s.hp true o s):=by
  simp only[LJ,LI,aN,jf,JN,cQ,iz,lW,aW,mN]
  cases guardOf ops s.tm o.guard<;>by_cases h:sq.contains j=true<;>simp only[b7,aN,h,if_true]<;>rfl
def MC(x:X)(ops:List Oper)(o:Oper)(r:List Oper)(sq:List Nat)(lt:List (Nat×List Nat×List Nat))(j:Nat)(rd:Hp)(s:St)(W:Option (List Nat)):Option St:=match W with
 |some W=>LJ x ops r sq lt (j+1) rd (Ii x ops W o s)
 |none=>LJ x ops r sq lt (j+1) rd (MX lt j s.hp.length (JN x ops (oY lt j s.hp) true o s))
@[simp] theorem apM(x:X)(ops:List Oper)(o:Oper)(r:List Oper)(sq:List Nat)(lt:List (Nat×List Nat×List Nat))(j:Nat)(rd:Hp)(s:St)(W:List Nat):MC x ops o r sq lt j rd s (some W)=LJ x ops r sq lt (j+1) rd (Ii x ops W o s):=rfl
@[simp] theorem apN(x:X)(ops:List Oper)(o:Oper)(r:List Oper)(sq:List Nat)(lt:List (Nat×List Nat×List Nat))(j:Nat)(rd:Hp)(s:St):MC x ops o r sq lt j rd s none=LJ x ops r sq lt (j+1) rd (MX lt j s.hp.length (JN x ops (oY lt j s.hp) true o s)):=rfl
@[simp] theorem Sd(x:X)(ops:List Oper)(o:Oper)(r:List Oper)(sq:List Nat)(e:Nat×List Nat×List Nat)(lt:List (Nat×List Nat×List Nat))(j:Nat)(rd:Hp)(s:St):
   LJ x ops (o::r) sq (e::lt) j rd (some s)=if sq.contains j=true then LI x ops r sq (e::lt) (j+1) (JN x ops s.hp false o s)
    else MC x ops o r sq (e::lt) j rd s (cQ (e::lt) j):=by
  generalize e::lt=lt
  simp only[LJ,LI,aN,jf,JN,Ii,MX,Fu,A3]
  cases hg:guardOf ops s.tm o.guard with
  |none=>simp only[b7];split<;>(try rfl);cases cQ lt j<;>simp only[MC,Ii,JN,hg,b7]<;>rfl
  |some g=>
   simp only[aN]
   split
   ·rfl
   ·cases cQ lt j with
    |some W=>simp only[bd,MC,Ii,hg,aN];rfl
    |none=>
     simp only[aW,MC,JN,hg,aN,MX]
     cases jP x (oY lt j s.hp) true g o s with
     |none=>rfl
     |some s'=>
      simp only[aN,pF]
      split<;>rename_i h3<;>simp only[h3,if_true,if_false,Bool.false_eq_true,aN,b7,LJ]
@[simp] theorem apO(x:X)(ops:List Oper)(sq:List Nat)(lt:List (Nat×List Nat×List Nat))(j:Nat)(s:St):LI x ops [] sq lt j (some s)=some s:=rfl
@[simp] theorem ah0(x:X)(ops:List Oper)(o:Oper)(r:List Oper)(sq:List Nat)(lt:List (Nat×List Nat×List Nat))(j:Nat)(s:St):
   LI x ops (o::r) sq lt j (some s)=LJ x ops (o::r) sq lt j s.hp (some s):=rfl
def Jv(W:List Nat)(id:Option Nat)(n:Nat)(r r':Option St):Option St:=
 if fL W=true∧(W.all fun i=>decide (i<n))=true then
  match id with
  |some wid=>if W=[wid] then r else none
  |none=>r'
 else none
@[simp] theorem ab1(W:List Nat)(wid n:Nat)(r r':Option St):Jv W (some wid) n r r'=if fL W=true∧(W.all fun i=>decide (i<n))=true then(if W=[wid] then r else none) else none:=rfl
@[simp] theorem ab2(W:List Nat)(n:Nat)(r r':Option St):Jv W none n r r'=if fL W=true∧(W.all fun i=>decide (i<n))=true then r' else none:=rfl
attribute [simp] fL
@[simp ↓] theorem aim(x:X)(ops:List Oper)(W:List Nat)(d:Option Nat)(op:Op)(ty:Nat)(pos:String)(af:Array Edge)(s:St):
   Ii x ops W ⟨d,op,ty,pos,af,none⟩ s=Jv W (dY s.tm op) s.hp.length (jW x s.hp false none d op s) (mD x W none ⟨d,op,0, "", #[],none⟩ s):=by
  simp only[Ii,guardOf,aN,oX,Jv,Option.getD_none,true_and]
  rfl
@[simp] theorem TY(tm:Tm)(f:Operand)(as:Array Operand)(ts:Array Nat):dY tm (.call ⟨.value f,as,ts⟩)=none:=rfl
def CT:AV→Option Nat
 | .ref id _=>some id
 | .elt id _ _ _=>some id
 |_=>none
def OF:AV→Option Nat
 | .arr id _ _ _=>some id
 |_=>none
@[simp] theorem ae9(a b:Nat):CT (.ref a b)=some a:=rfl
@[simp] theorem afa(a b c d:Nat):CT (.elt a b c d)=some a:=rfl
@[simp] theorem agp(a b c d:Nat):OF (.arr a b c d)=some a:=rfl
@[simp] theorem TZ(tm:Tm)(t:Nat)(a v:Operand):dY tm (.store t a v)=CT (uv (aX tm a)):=by
  simp only[dY,CT];rfl
@[simp] theorem R5(tm:Tm)(a b:Operand)(ts:Array Nat):dY tm (.call ⟨.builtin .append, #[a,b],ts⟩)=OF (uv (aX tm a)):=by
  simp only[dY,OF,gG,List.map_cons,List.map_nil]
  cases uv (aX tm a)<;>rfl
def aa0(a:Option St):Option (Ex×St):=aQ a fun s=>some (.nor,s)
@[simp] theorem agz(s:St):aa0 (some s)=some (.nor,s):=rfl
def Ov(x:X)(r:Option (Ex×St))(b:Code):Option (Ex×St):=alO r fun s=>ia x b 0 s
@[simp] theorem alQ(x:X)(s:St)(b:Code):Ov x (some (.nor,s)) b=ia x b 0 s:=rfl
@[simp] theorem agn(x:X)(i:Nat)(s:St)(b:Code):Ov x (some (.exit i,s)) b=some (.exit i,s):=rfl
@[simp] theorem alP(x:X)(s:St)(b:Code):Ov x (some (.ret,s)) b=some (.ret,s):=rfl
def W9(x:X)(v:AV)(a b:Code)(s:St):Option (Ex×St):=match v with
 | .p (.bool t)=>if t=true then ia x a 0 s else ia x b 0 s
 |_=>none
@[simp] theorem adA(x:X)(t:Bool)(a b:Code)(s:St):W9 x (.p (.bool t)) a b s=if t=true then ia x a 0 s else ia x b 0 s:=rfl
@[simp ↓] theorem ap7(x:X)(i:Nat)(s:St):ia x .skip i s=some (.nor,s):=rfl
@[simp ↓] theorem aic(x:X)(i l:Nat)(s:St):ia x (.label l) i s=some (.nor,s):=rfl
@[simp ↓] theorem aqa(x:X)(i l:Nat)(s:St):ia x (.exit l) i s=some (.exit l,s):=rfl
@[simp ↓] theorem auW(x:X)(i:Nat)(s:St):ia x .ret i s=some (.ret,s):=rfl
@[simp ↓] theorem auV(x:X)(a b:Code)(i:Nat)(s:St):ia x (.seq a b) i s=Ov x (ia x a 0 s) b:=rfl
@[simp ↓] theorem aid(x:X)(k i:Nat)(c:Code)(s:St):ia x (.block k c) i s=pa k (ia x c k s):=rfl
@[simp ↓] theorem aqc(x:X)(c:Operand)(a b:Code)(i:Nat)(s:St):ia x (.cond c a b) i s=W9 x (aX s.tm c) a b s:=rfl
@[simp ↓] theorem aqb(x:X)(id:Nat)(ops:Array Oper)(i:Nat)(s:St):ia x (.region id ops true) i s=aa0 (LJ x ops.toList ops.toList (x.T.seqs x.f id) (x.T.late x.f id) 0 s.hp (some s)):=rfl
@[simp ↓] theorem ap8(x:X)(id:Nat)(ops:Array Oper)(i:Nat)(s:St):ia x (.region id ops false) i s=aa0 (Rf x ops.toList ops.toList (some s)):=rfl
def Wp(x:X)(c:Code)(i:Nat)(s:St):Option (Ex×St):=iter (ia x c 0) (x.T.keep x.f i) s.hp.length x.fuel s
@[simp] theorem aob(x:X)(c:Code)(i:Nat)(tm:Tm)(h:Hp):Wp x c i ⟨tm,h⟩=iter (ia x c 0) (x.T.keep x.f i) h.length x.fuel ⟨tm,h⟩:=rfl
@[simp] theorem ahY(s:St):sR [] s=s:=rfl
@[simp] theorem ac3(t o z:Nat)(r:List (Nat×Nat×Nat))(s:St):sR ((t,o,z)::r) s=sR r (qo t o z s):=rfl
@[simp ↓] theorem ap9(x:X)(c:Code)(i:Nat)(s:St):ia x (.loop c) i s=Wp x c i (sR (x.T.grow x.f i) s):=rfl
attribute [simp] FJ Ir Iq FK
def fq(ks:List Nat)(m:Nat)(r:Option (Ex×St))(K:St→Option (Ex×St)):Option (Ex×St):=
 match r with
 |none=>none
 |some (.nor,s)=>K (norm ks m s)
 |some (.exit id,s)=>some (.exit id,norm ks m s)
 |some (.ret,s)=>some (.ret,norm ks m s)
@[simp] theorem aaR(ks:List Nat)(m:Nat)(K:St→Option (Ex×St))(s:St):fq ks m (some (.nor,s)) K=K (norm ks m s):=rfl
@[simp] theorem V5(ks:List Nat)(m i:Nat)(K:St→Option (Ex×St))(s:St):fq ks m (some (.exit i,s)) K=some (.exit i,norm ks m s):=rfl
@[simp] theorem aaQ(ks:List Nat)(m:Nat)(K:St→Option (Ex×St))(s:St):fq ks m (some (.ret,s)) K=some (.ret,norm ks m s):=rfl
def AD(body:St→Option (Ex×St))(ks:List Nat)(m:Nat):Nat→St→Option (Ex×St)
 |0,_=>none
 |n+1,s=>BH ks m (body s) fun s'=>iter body ks m n s'
theorem iter_eq(body:St→Option (Ex×St))(ks:List Nat)(m n:Nat)(s:St):iter body ks m n s=AD body ks m n (norm ks m s):=by
 cases n<;>rfl
theorem DI(body:St→Option (Ex×St))(ks:List Nat)(m n:Nat)(r:Option (Ex×St)):BH ks m r (fun s'=>iter body ks m n s')=fq ks m r (AD body ks m n):=by
 match r with
 |none=>rfl
 |some (.nor,s)=>exact iter_eq body ks m n s
 |some (.exit _,s)=>rfl
 |some (.ret,s)=>rfl
end Go.En
namespace Go.En
theorem Fg{x:X}{rd:Hp}{free:Bool}{g:Option Bool}{d:Option Nat}{op:Op}{s:St}{a:A}(h:pY x.T (ly x.T x.f d) rd s.tm op=some a):
  jW x rd free g d op s=HK x.nt d g s a (gu (g.getD true) s.tm op):=by
 simp only[jW,jP,h,bd,HK]
 cases g with
 |none=>simp[n5]
 |some b=>simp[n5]
theorem jV{x:X}{rd:Hp}{free:Bool}{g:Option Bool}{d:Option Nat}{op:Op}{s:St}{r:O}(h:pY x.T (ly x.T x.f d) rd s.tm op=none)(h2:sr x.T rd s.tm op=some r):
  jW x rd free g d op s=im x.nt d g s r (gu (g.getD true) s.tm op):=by
 simp only[jW,jP,h,h2,bd,aW,im]
 cases g with
 |none=>simp[n5]
 |some b=>simp[n5]
theorem wA{x:X}{rd:Hp}{free:Bool}{g:Option Bool}{d:Option Nat}{op:Op}{s:St}(h:pY x.T (ly x.T x.f d) rd s.tm op=none)(h2:sr x.T rd s.tm op=none)(h3:eJ op=none)(h4:wc x.T s.hp s.tm op=none):
  jW x rd free g d op s=CQ x.nt d g s (gu (g.getD true) s.tm op):=by
 simp only[jW,jP,h,h2,h3,h4,aW,CQ]
 cases g with
 |none=>cases free<;>simp[n5,b7]
 |some b=>cases b<;>cases free<;>simp[n5,b7]
theorem lN{x:X}{rd:Hp}{free:Bool}{g:Option Bool}{d:Option Nat}{op:Op}{s:St}{r:Option O}(h:pY x.T (ly x.T x.f d) rd s.tm op=none)(h2:sr x.T rd s.tm op=r)(h3:eJ op=none)(h4:wc x.T s.hp s.tm op=none):
  jW x rd free g d op s=p' x.nt d g s r (gu (g.getD true) s.tm op):=by
 cases r with
 |some r=>exact jV h h2
 |none=>exact wA h h2 h3 h4
theorem Ff{x:X}{rd:Hp}{free:Bool}{g:Option Bool}{d:Option Nat}{op:Op}{s:St}{r:Option (Hp×AV)}(h:pY x.T (ly x.T x.f d) rd s.tm op=none)(h2:sr x.T rd s.tm op=none)(h3:eJ op=none)(h4:wc x.T s.hp s.tm op=r):
  jW x rd free g d op s=Dn x.nt d free g s r (gu (g.getD true) s.tm op):=by
 simp only[jW,jP,h,h2,h3,h4,aW,Dn]
 cases g with
 |none=>simp[n5]
 |some b=>cases b<;>simp[n5]
theorem HC(g:Option Bool)(ok K K':Bool)(h:g.getD true=true→K=K'):n5 g (ok&&K)=n5 g (ok&&K'):=by
 cases g with
 |none=>simp[h rfl]
 |some b=>cases b with
  |false=>rfl
  |true=>simp[n5,h rfl]
theorem gk{nt:Nat}{d:Option Nat}{g:Option Bool}{s:St}{r:O}{K K':Bool}(h:g.getD true=true→K=K'):im nt d g s r K=im nt d g s r K':=by
 simp only[im,HC g r.ok K K' h]
theorem BR(g:Option Bool)(K K':Bool)(h:g.getD true=true→K=K'):n5 g K=n5 g K':=by
 have:=HC g true K K' h
 simpa using this
theorem CO{nt:Nat}{d:Option Nat}{g:Option Bool}{s:St}{K K':Bool}(h:g.getD true=true→K=K'):CQ nt d g s K=CQ nt d g s K':=by
 simp only[CQ,BR g K K' h]
theorem po{nt:Nat}{d:Option Nat}{g:Option Bool}{s:St}{r:Option O}{K K':Bool}(h:g.getD true=true→K=K'):p' nt d g s r K=p' nt d g s r K':=by
 cases r with
 |none=>exact CO h
 |some r=>exact gk h
theorem Jo{nt:Nat}{d:Option Nat}{g:Option Bool}{s:St}{a:A}{K K':Bool}(h:g.getD true=true→K=K'):HK nt d g s a K=HK nt d g s a K':=by
 simp only[HK,HC g a.ok K K' h]
theorem Dm{nt:Nat}{d:Option Nat}{free:Bool}{g:Option Bool}{s:St}{r:Option (Hp×AV)}{K K':Bool}(h:g.getD true=true→K=K'):Dn nt d free g s r K=Dn nt d free g s r K':=by
 simp only[Dn,BR g K K' h]
section
variable (x:X) (rd:Hp) (free:Bool) (g:Option Bool) (d:Option Nat) (s:St)
def FP(x:X)(g:Option Bool)(d:Option Nat)(s:St)(own:Nat)(nil:Bool)(v:AV):Option St:=
 if own≠0∧nil=true then HK x.nt d g s ⟨fun id=>.arr id 0 0 0,fun _=>.arr 0 own false [],[],true⟩ true
 else im x.nt d g s ⟨uv v,true⟩ (uk true v)
@[simp ↓] theorem aqg(a:Operand):jW x rd free g d (.move a) s=im x.nt d g s ⟨uv (aX s.tm a),true⟩ (uk true (aX s.tm a)):=by
  rw[jV rfl rfl];exact gk fun h=>by simp[gu,ef,Op.operands,h]
@[simp ↓] theorem adq(a:Operand):jW x rd free g d (.assign a) s=FP x g d s (ly x.T x.f d) (lX a) (aX s.tm a):=by
  unfold FP
  split
  ·rename_i h
   rw[Fg (by simp only[pY];rw[if_pos h])]
   refine Jo fun hg=> ?_
   have hn:=h.2
   unfold lX at hn
   split at hn
   ·simp[gu,ef,Op.operands,aX,Jj,gP,uk]
   ·cases hn
  ·rename_i h
   rw[jV (by simp only[pY];rw[if_neg h]) rfl]
   exact gk fun h=>by simp[gu,ef,Op.operands,h]
def DX(c a b:AV):Option O:=match uv c with
 | .p (.bool b')=>some (sf b' a b)
 |_=>none
@[simp ↓] theorem aqe(c a b:Operand):jW x rd free g d (.pick c a b) s=p' x.nt d g s (DX (aX s.tm c) (aX s.tm a) (aX s.tm b)) (uk true (aX s.tm c)):=by
  rw[lN (r:=DX (aX s.tm c) (aX s.tm a) (aX s.tm b)) rfl (by simp only[sr,DX];rfl) rfl rfl];exact po fun h=>by simp[gu,h]
@[simp ↓] theorem aqh(t:Nat)(a:Operand):jW x rd free g d (.load t a) s=im x.nt d g s (ql x.T rd t (uv (aX s.tm a))) (uk true (aX s.tm a)):=by
  rw[jV rfl rfl];exact gk fun h=>by simp[gu,ef,Op.operands,h]
def Lb:AV→Option O
 | .p (.ptr cs o)=>some ⟨.p (.ptr cs o),true⟩
 | .ref i o=>some ⟨.ref i o,true⟩
 | .elt i g n o=>some ⟨.elt i g n o,true⟩
 |_=>none
@[simp ↓] theorem UG(a:Operand):jW x rd free g d (.nilCheck a) s=p' x.nt d g s (Lb (uv (aX s.tm a))) (uk true (aX s.tm a)):=by
  rw[lN (r:=Lb (uv (aX s.tm a))) rfl (by simp only[sr,Lb];rfl) rfl rfl];exact po fun h=>by simp[gu,ef,Op.operands,h]
def Mc(T:cX)(op:BinOp)(t:Nat)(a b:AV):Option O:=match a,b with
 | .agg a,.agg b=>match descOf T t,op with
  |some (.struct fs),.eql=>some (.of ((cg T 0 fs.toList a b).map fun r=>.p (.bool r)))
  |some (.struct fs),.neq=>some (.of ((cg T 0 fs.toList a b).map fun r=>.p (.bool !r)))
  |_,_=>none
 |a,b=>match descOf T t with
  |some d=>some (dF d op a b)
  |_=>none
@[simp ↓] theorem aik(op:BinOp)(t t':Nat)(a b:Operand):jW x rd free g d (.binOp op t a b t') s=p' x.nt d g s (Mc x.T op t (uv (aX s.tm a)) (uv (aX s.tm b))) (uk true (aX s.tm a)&&uk true (aX s.tm b)):=by
  rw[lN (r:=Mc x.T op t (uv (aX s.tm a)) (uv (aX s.tm b))) rfl rfl rfl rfl];exact po fun h=>by simp[gu,ef,Op.operands,h]
@[simp ↓] theorem aqd(op:UnOp)(t:Nat)(a:Operand):jW x rd free g d (.unOp op t a) s=im x.nt d g s (VO op (uv (aX s.tm a))) (uk true (aX s.tm a)):=by
  rw[jV rfl rfl];exact gk fun h=>by simp[gu,ef,Op.operands,h]
@[simp ↓] theorem W5(t t':Nat)(a:Operand):jW x rd free g d (.convert t t' a) s=im x.nt d g s (AY x.T t t' (uv (aX s.tm a))) (uk true (aX s.tm a)):=by
  rw[jV rfl rfl];exact gk fun h=>by simp[gu,ef,Op.operands,h]
@[simp ↓] theorem UH(f:Nat)(abY:Array Operand):jW x rd free g d (.makeFunc (.func f) #[] abY) s=im x.nt d g s ⟨.fn f (gG s.tm abY.toList),true⟩ (ef true s.tm abY.toList):=by
  rw[jV rfl rfl];exact gk fun h=>by simp[gu,h,Op.operands]
def RU(f:Nat)(vs:List AV):Option O:=(iF vs).map fun ps=>⟨.p (.fb f ps),true⟩
@[simp ↓] theorem Sg(f:Nat)(a:Operand):jW x rd free g d (.makeFunc (.func f) #[a] #[]) s=p' x.nt d g s (RU f [uv (aX s.tm a)]) (uk true (aX s.tm a)):=by
  rw[lN (r:=RU f [uv (aX s.tm a)]) rfl rfl rfl rfl];exact po fun h=>by simp[gu,ef,Op.operands,h]
@[simp ↓] theorem aif(t:Nat)(a:Operand)(lo hi:Option Operand):jW x rd free g d (.slice t a lo hi none) s=im x.nt d g s (eG x.T rd t (uv (aX s.tm a)) (lo.map fun y=>uv (aX s.tm y)) (hi.map fun y=>uv (aX s.tm y))) (ef true s.tm (a::(lo.toList++hi.toList))):=by
  rw[jV rfl rfl];exact gk fun h=>by simp[gu,ef,Op.operands,h]
@[simp ↓] theorem Sj(t f:Nat)(a:Operand):jW x rd free g d (.fieldAddr t a f) s=im x.nt d g s (uF x.T t (uv (aX s.tm a)) f) (uk true (aX s.tm a)):=by
  rw[jV rfl rfl];exact gk fun h=>by simp[gu,ef,Op.operands,h]
@[simp ↓] theorem Si(t:Nat)(a b:Operand):jW x rd free g d (.indexAddr t a b) s=im x.nt d g s (dm x.T rd t (uv (aX s.tm a)) (uv (aX s.tm b))) (uk true (aX s.tm a)&&uk true (aX s.tm b)):=by
  rw[jV rfl rfl];exact gk fun h=>by simp[gu,ef,Op.operands,h]
@[simp ↓] theorem aii(t:Nat)(a b:Operand):jW x rd free g d (.index t a b) s=im x.nt d g s (ri x.T t (uv (aX s.tm a)) (uv (aX s.tm b))) (uk true (aX s.tm a)&&uk true (aX s.tm b)):=by
  rw[jV rfl rfl];exact gk fun h=>by simp[gu,ef,Op.operands,h]
def parts(tm:Tm):List (Nat×Operand)→List (Nat×AV)
 |[]=>[]
 |(i,y)::r=>(i,uv (aX tm y))::parts tm r
def oq(tm:Tm):List (Nat×Operand)→Bool
 |[]=>true
 |(_,y)::r=>uk true (aX tm y)&&oq tm r
theorem mz(tm:Tm)(l:List (Nat×Operand)):(l.map fun (i,x)=>(i,uv (aX tm x)))=parts tm l:=by
 induction l with
 |nil=>rfl
 |cons a r ih=>simp only[List.map_cons,ih,parts]
theorem Al(tm:Tm)(l:List (Nat×Operand)):ef true tm (l.map (·.2))=oq tm l:=by
 induction l with
 |nil=>rfl
 |cons a r ih=>rw[List.map_cons,ef,List.all_cons,oq,←ih];rfl
attribute [simp] parts oq
def UP(x:X)(g:Option Bool)(d:Option Nat)(s:St)(own:Nat)(r:O)(K:Bool):Option St:=
 if own=0 then im x.nt d g s r K
 else match r.v with
  | .agg cs=>HK x.nt d g s ⟨fun id=>.agg ((dM (.arr id 0 0 0) cs).getD cs),fun _=>.arr 0 own false [],[],r.ok⟩ K
  |_=>im x.nt d g s r K
@[simp ↓] theorem aij(t:Nat)(ps:Array (Nat×Operand)):jW x rd free g d (.build t ps) s=UP x g d s (ly x.T x.f d) (kZ x.T t (parts s.tm ps.toList)) (oq s.tm ps.toList):=by
  unfold UP
  have hK:g.getD true=true→gu (g.getD true) s.tm (.build t ps)=oq s.tm ps.toList:=fun h=>by
   rw[h];exact Al _ _
  split
  ·rename_i h
   rw[jV (r:=kZ x.T t (parts s.tm ps.toList)) (by simp only[pY];rw[if_pos h]) (by simp only[sr,mz])]
   exact gk hK
  ·rename_i h
   split
   ·rename_i cs hc
    rw[Fg (a:=⟨fun id=>.agg ((dM (.arr id 0 0 0) cs).getD cs),fun _=>.arr 0 (ly x.T x.f d) false [],[],(kZ x.T t (parts s.tm ps.toList)).ok⟩) (by simp only[pY];rw[if_neg h];simp only[mz,hc])]
    exact Jo hK
   ·rename_i hc
    rw[jV (r:=kZ x.T t (parts s.tm ps.toList)) (by
     simp only[pY];rw[if_neg h];simp only[mz]
     try split
     all_goals try rename_i hx;exact absurd hx (hc _)
     all_goals rfl) (by simp only[sr,mz])]
    exact gk hK
@[simp ↓] theorem ado(t:Nat)(a b:Operand)(c:Bool):jW x rd free g d (.lookup t a b c) s=im x.nt d g s (iy x.T rd t (uv (aX s.tm a)) (uv (aX s.tm b)) c) (uk true (aX s.tm a)&&uk true (aX s.tm b)):=by
  rw[jV rfl rfl];exact gk fun h=>by simp[gu,ef,Op.operands,h]
def Jm(h:Hp):AV→Option O
 | .it id=>match h.at id with
  | .map []=>some ⟨.tup [.p (.bool false)],true⟩
  |_=>none
 |_=>none
@[simp ↓] theorem aqf(a:Operand):jW x rd free g d (.next a false) s=p' x.nt d g s (Jm rd (uv (aX s.tm a))) (uk true (aX s.tm a)):=by
  rw[lN (r:=Jm rd (uv (aX s.tm a))) rfl (by simp only[sr,Jm];rfl) rfl rfl];exact po fun h=>by simp[gu,ef,Op.operands,h]
def Tj(h:Hp)(d:Option TypeDesc):AV→Option (Hp×AV)
 | .map id=>match d with
  |some (.map _ _)=>match h.at id with
   | .map []=>some (h,.it id)
   |_=>none
  |_=>none
 |_=>none
@[simp ↓] theorem aih(t:Nat)(a:Operand):jW x rd free g d (.range t a) s=Dn x.nt d free g s (Tj s.hp (descOf x.T t) (uv (aX s.tm a))) (uk true (aX s.tm a)):=by
  rw[Ff (r:=Tj s.hp (descOf x.T t) (uv (aX s.tm a))) rfl rfl rfl (by
   simp only[wc,Tj]
   generalize uv (aX s.tm a)=v
   generalize descOf x.T t=dd
   cases v<;>(try rfl)
   cases dd<;>(try rfl)
   rename_i d'
   cases d'<;>rfl)]
  exact Dm fun h=>by simp[gu,ef,Op.operands,h]
def UD(i:Nat):AV→Option O
 | .tup vs=>some (.of vs[i]?)
 |_=>none
@[simp ↓] theorem W4(a:Operand)(i:Nat):jW x rd free g d (.extract a i) s=p' x.nt d g s (UD i (uv (aX s.tm a))) (uk true (aX s.tm a)):=by
  rw[lN (r:=UD i (uv (aX s.tm a))) rfl (by simp only[sr,UD];rfl) rfl rfl];exact po fun h=>by simp[gu,ef,Op.operands,h]
def Em(dd:Option TypeDesc)(v:AV):Option O:=match dd,v with
 |some .string,.p (.str s)=>some ⟨.p (.int .i64 s.size),true⟩
 |some (.slice _),.p (.sl l)=>some ⟨.p (.int .i64 l.length),true⟩
 |some (.slice _),.p .nils=>some ⟨.p (.int .i64 0),true⟩
 |some (.slice _),.arr _ _ _ k=>some ⟨.p (.int .i64 k),true⟩
 |_,_=>none
@[simp ↓] theorem auZ(a:Operand)(t:Nat):jW x rd free g d (.call ⟨.builtin .len, #[a], #[t]⟩) s=p' x.nt d g s (Em (descOf x.T t) (uv (aX s.tm a))) (uk true (aX s.tm a)):=by
  rw[lN (r:=Em (descOf x.T t) (uv (aX s.tm a))) rfl (by simp only[sr,Em,gG,List.map_cons,List.map_nil];rfl) rfl rfl]
  exact po fun h=>by simp[gu,ef,h]
@[simp ↓] theorem auY(as:Array Operand)(ts:Array Nat):jW x rd free g d (.call ⟨.builtin .max,as,ts⟩) s=im x.nt d g s (.of (sB true (gG s.tm as.toList))) (ef true s.tm as.toList):=by
  rw[jV rfl rfl];exact gk fun h=>by simp[gu,h]
@[simp ↓] theorem auX(as:Array Operand)(ts:Array Nat):jW x rd free g d (.call ⟨.builtin .min,as,ts⟩) s=im x.nt d g s (.of (sB false (gG s.tm as.toList))) (ef true s.tm as.toList):=by
  rw[jV rfl rfl];exact gk fun h=>by simp[gu,h]
def xE(x:X)(g:Option Bool)(d:Option Nat)(s:St)(a:Option A)(K:Bool):Option St:=match a with
 |some a=>HK x.nt d g s a K
 |none=>CQ x.nt d g s K
theorem yr{a:Option A}{op:Op}(h:pY x.T (ly x.T x.f d) rd s.tm op=a)(h2:sr x.T rd s.tm op=none)(h3:eJ op=none)(h4:wc x.T s.hp s.tm op=none):jW x rd free g d op s=xE x g d s a (gu (g.getD true) s.tm op):=by
 cases a with
 |some a=>exact Fg h
 |none=>exact wA h h2 h3 h4
theorem BZ{x:X}{d:Option Nat}{g:Option Bool}{s:St}{a:Option A}{K K':Bool}(h:g.getD true=true→K=K'):xE x g d s a K=xE x g d s a K':=by
 cases a with
 |none=>exact CO h
 |some r=>exact Jo h
@[simp ↓] theorem ail(t:Nat):jW x rd free g d (.alloc t) s=xE x g d s ((x.T.info t).map fun i=>s_ (ly x.T x.f d) (i.zero.map .p) true) true:=by
  rw[yr _ _ _ _ _ _ (a:=(x.T.info t).map fun i=>s_ (ly x.T x.f d) (i.zero.map .p) true) rfl rfl rfl rfl];rfl
def ad0(own:Nat)(i:Option TI)(v:AV):Option A:=i.map fun i=>s_ own v.cells (decide (v.cells.length=i.size∧v.cells.all AV.one=true))
@[simp ↓] theorem au0(t:Nat)(a:Operand):jW x rd free g d (.box t a) s=xE x g d s (ad0 (ly x.T x.f d) (x.T.info t) (uv (aX s.tm a))) (uk true (aX s.tm a)):=by
  rw[yr _ _ _ _ _ _ (a:=ad0 (ly x.T x.f d) (x.T.info t) (uv (aX s.tm a))) rfl rfl rfl rfl]
  exact BZ fun h=>by simp[gu,ef,Op.operands,h]
def L9(e:Option TI)(len:Nat)(ps:List (Nat×AV)):Option A:=e.bind fun e=>(oU e.size (List.replicate len (cf e)) ps).map fun es=>
   ⟨fun id=>.arr id 0 0 len,fun _=>.arr 0 e.size false es,[],decide (0<e.size∧len*e.size≤16777216∧(cf e).cells.length=e.size)⟩
def L7(e:Option TI)(len:Nat)(ps:List (Nat×AV)):Option O:=e.bind fun e=>(oU e.size (List.replicate len (cf e)) ps).map fun es=>
   ⟨.p (.sl es),decide (0<e.size∧len*e.size≤16777216∧(cf e).cells.length=e.size)⟩
def L8(x:X)(g:Option Bool)(d:Option Nat)(s:St)(own:Nat)(a:Option A)(v:Option O)(K:Bool):Option St:=
 if own=frozen then p' x.nt d g s v K else xE x g d s a K
@[simp ↓] theorem Qg(t len:Nat)(ps:Array (Nat×Operand)):jW x rd free g d (.buildSlice t len ps) s=L8 x g d s (ly x.T x.f d) (L9 (elemOf x.T t) len (parts s.tm ps.toList)) (L7 (elemOf x.T t) len (parts s.tm ps.toList)) (oq s.tm ps.toList):=by
  have hV:sr x.T rd s.tm (.buildSlice t len ps)=L7 (elemOf x.T t) len (parts s.tm ps.toList):=by simp only[sr,L7,mz]
  have hK:g.getD true=true→gu (g.getD true) s.tm (.buildSlice t len ps)=oq s.tm ps.toList:=fun h=>by rw[h];exact Al _ _
  unfold L8
  split
  ·rename_i h
   rw[lN (r:=L7 (elemOf x.T t) len (parts s.tm ps.toList)) (by simp only[pY];rw[if_pos h]) hV rfl rfl]
   exact po hK
  ·rename_i h
   have hA:pY x.T (ly x.T x.f d) rd s.tm (.buildSlice t len ps)=L9 (elemOf x.T t) len (parts s.tm ps.toList):=by
    simp only[pY,L9,mz];rw[if_neg h]
   cases hc:L9 (elemOf x.T t) len (parts s.tm ps.toList) with
   |some a=>
    rw[hc] at hA
    rw[Fg hA]
    exact Jo hK
   |none=>
    rw[hc] at hA
    have hV2:sr x.T rd s.tm (.buildSlice t len ps)=none:=by
     rw[hV]
     unfold L9 at hc
     unfold L7
     cases he:elemOf x.T t with
     |none=>rfl
     |some e=>
      rw[he] at hc
      simp only[Option.bind_some,Option.map_eq_none_iff] at hc ⊢
      exact hc
    rw[wA hA hV2 rfl rfl]
    exact CO hK
def TP(e:Option TI)(l c:AV):Option A:=match l,c with
  | .p (.int _ n),.p (.int _ m)=>e.map fun e=>
    ⟨fun id=>.arr id 0 0 n.toNat,fun _=>.arr 0 e.size false (List.replicate n.toNat (cf e)),[],decide (0<e.size∧0≤n∧n≤m∧m≤1099511627776∧e.bytes*m≤1099511627776∧(cf e).cells.length=e.size)⟩
  |_,_=>none
@[simp ↓] theorem Sf(t:Nat)(l c:Operand):jW x rd free g d (.makeSlice t l c) s=xE x g d s (TP (elemOf x.T t) (uv (aX s.tm l)) (uv (aX s.tm c))) (uk true (aX s.tm l)&&uk true (aX s.tm c)):=by
  rw[yr _ _ _ _ _ _ (a:=TP (elemOf x.T t) (uv (aX s.tm l)) (uv (aX s.tm c))) (by simp only[pY,TP];rfl) rfl rfl rfl]
  exact BZ fun h=>by simp[gu,ef,Op.operands,h]
@[simp ↓] theorem W3(t:Nat):jW x rd free g d (.makeMap t none) s=HK x.nt d g s ⟨fun id=>.map id,fun _=>.map [],[],true⟩ true:=by
  rw[Fg (a:=⟨fun id=>.map id,fun _=>.map [],[],true⟩) rfl];rfl
@[simp ↓] theorem aie(t:Nat)(a b:Operand):jW x rd free g d (.store t a b) s=Dn x.nt d free g s ((ni x.T s.hp t (uv (aX s.tm a)) (uv (aX s.tm b))).map fun h=>(h,.undef)) (uk true (aX s.tm a)&&uk true (aX s.tm b)):=by
  rw[Ff rfl rfl rfl rfl];exact Dm fun h=>by simp[gu,ef,Op.operands,h]
@[simp ↓] theorem Se(t:Nat)(m a b:Operand):jW x rd free g d (.mapUpdate t m a b) s=Dn x.nt d free g s (ix x.T s.hp t (uv (aX s.tm m)) (uv (aX s.tm a)) (uv (aX s.tm b))) (uk true (aX s.tm m)&&(uk true (aX s.tm a)&&uk true (aX s.tm b))):=by
  rw[Ff (r:=ix x.T s.hp t (uv (aX s.tm m)) (uv (aX s.tm a)) (uv (aX s.tm b))) rfl rfl rfl rfl]
  exact Dm fun h=>by simp[gu,ef,Op.operands,h]
@[simp ↓] theorem adp(t:Nat)(m a b:Operand):jW x rd free g d (.insert t m a b) s=Dn x.nt d free g s (ix x.T s.hp t (uv (aX s.tm m)) (uv (aX s.tm a)) (uv (aX s.tm b))) (uk true (aX s.tm m)&&(uk true (aX s.tm a)&&uk true (aX s.tm b))):=by
  rw[Ff (r:=ix x.T s.hp t (uv (aX s.tm m)) (uv (aX s.tm a)) (uv (aX s.tm b))) rfl rfl rfl rfl]
  exact Dm fun h=>by simp[gu,ef,Op.operands,h]
def FT(e e':Option TI)(xs:Option (List PV)):Option A:=match e,e' with
 |some e,some _=>xs.map fun xs=>⟨fun id=>.arr id 0 0 xs.length,fun _=>.arr 0 e.size false xs,[],decide (0<e.size∧xs.length*e.bytes≤1099511627776∧xs.length≤1099511627776∧∀y∈xs,y.cells.length=e.size)⟩
 |_,_=>none
def Mf(h:Hp)(id gn off len:Nat)(e e':Option TI)(xs:Option (List PV)):Option (Hp×AV):=match h.at id,e,e',xs with
    | .arr g' sz sh es,some e,some _,some xs=>
     if gn=g'∧0<sz∧sz=e.size∧(len+xs.length)*e.bytes≤1099511627776∧len+xs.length≤1099511627776∧(∀y∈xs,y.cells.length=e.size) then
      if off+len=es.length then(if off=0∧xs.length=0 then some (h,.arr id gn off len) else some (h.set id (.arr (gn+xs.length+(if off=0 then 0 else 1)) sz sh (es.drop off++xs)),.arr id (gn+xs.length+(if off=0 then 0 else 1)) 0 (len+xs.length)))
      else if off+len+xs.length≤es.length∧sh=false then some (h.set id (.arr gn sz sh (es.take (off+len)++xs++es.drop (off+len+xs.length))),.arr id gn off (len+xs.length))
      else none
     else none
    |_,_,_,_=>none
def U0(x:X)(rd:Hp)(free:Bool)(g:Option Bool)(d:Option Nat)(s:St)(e e':Option TI)(v y:AV)(K:Bool):Option St:=match v with
 | .p .nils=>xE x g d s (FT e e' (rM rd y)) K
 | .arr id gn off len=>Dn x.nt d free g s (Mf s.hp id gn off len e e' (rM s.hp y)) K
 |_=>CQ x.nt d g s K
@[simp ↓] theorem adr(a b:Operand)(t t':Nat):jW x rd free g d (.call ⟨.builtin .append, #[a,b], #[t,t']⟩) s=U0 x rd free g d s (elemOf x.T t) (elemOf x.T t') (uv (aX s.tm a)) (uv (aX s.tm b)) (uk true (aX s.tm a)&&uk true (aX s.tm b)):=by
  have hK:g.getD true=true→gu (g.getD true) s.tm (.call ⟨.builtin .append, #[a,b], #[t,t']⟩)=(uk true (aX s.tm a)&&uk true (aX s.tm b)):=fun h=>by simp[gu,ef,h]
  unfold U0
  split
  ·rename_i h
   by_cases hn:FT (elemOf x.T t) (elemOf x.T t') (rM rd (uv (aX s.tm b)))=none
   ·rw[yr _ _ _ _ _ _ (a:=FT (elemOf x.T t) (elemOf x.T t') (rM rd (uv (aX s.tm b)))) (by simp only[pY,FT,h];cases elemOf x.T t<;>cases elemOf x.T t'<;>rfl) rfl rfl (by simp only[wc,gG,List.map_cons,List.map_nil,h])]
    exact BZ hK
   ·rw[yr _ _ _ _ _ _ (a:=FT (elemOf x.T t) (elemOf x.T t') (rM rd (uv (aX s.tm b)))) (by simp only[pY,FT,h];cases elemOf x.T t<;>cases elemOf x.T t'<;>rfl) rfl rfl (by simp only[wc,gG,List.map_cons,List.map_nil,h])]
    exact BZ hK
  ·rename_i id gn off len h
   rw[Ff (r:=Mf s.hp id gn off len (elemOf x.T t) (elemOf x.T t') (rM s.hp (uv (aX s.tm b)))) (by simp only[pY,h]) rfl rfl (by simp only[wc,Mf,gG,List.map_cons,List.map_nil,h];cases s.hp.at id<;>cases elemOf x.T t<;>cases elemOf x.T t'<;>cases rM s.hp (uv (aX s.tm b))<;>rfl)]
   exact Dm hK
  ·rename_i h1 h2
   rw[wA]
   ·exact CO hK
   ·simp only[pY]
    split
    ·rename_i h _ _;exact absurd h h1
    ·rfl
   ·rfl
   ·rfl
   ·simp only[wc,gG,List.map_cons,List.map_nil]
    split
    ·rename_i h _;simp at h;exact absurd h.1 (h2 _ _ _ _)
    ·rfl
end
end Go.En
namespace Go.En
def yM(free:Bool)(g:Option Bool)(d:Option Nat)(s:St)(r:Option (AV×Hp)):Option St:=
 if g.getD true=true then(if free=true then none else aQ r fun r=>some ⟨bJ s.tm d (m8 g r.1),r.2⟩) else some ⟨bJ s.tm d (.gd false .undef),s.hp⟩
def mR(x:X)(free:Bool)(g:Option Bool)(d:Option Nat)(s:St)(f:Nat)(ids:List Nat)(r rh:Option (AV×Hp)):Option St:=
 kO r (fun r=>
    if r.2.length=0 then
     if scalar r.1=true∨x.T.fresh f=true then some ⟨bJ s.tm d (m8 g r.1),s.hp⟩
     else if g.getD true=true then
      if free=true∧ids≠[] then none
      else some ⟨bJ s.tm d (m8 g r.1),share s.hp ids⟩
     else some ⟨bJ s.tm d (.gd false .undef),s.hp⟩
    else if g.getD true=true then
     if free=false∧r.2.all lY=true then some ⟨bJ s.tm d (m8 g (np s.hp.length r.1)),share s.hp ids++r.2⟩
     else if free=false then aQ rh fun r=>some ⟨bJ s.tm d (m8 g r.1),r.2⟩
     else if r.2.all lY=true∧ids=[] then some ⟨bJ s.tm d (m8 g (np s.hp.length r.1)),s.hp++r.2⟩ else none
    else some ⟨bJ s.tm d (.gd false .undef),s.hp⟩)
   (fun _=>if g.getD true=true then none else some ⟨bJ s.tm d (.gd false .undef),s.hp⟩)
def ME(x:X)(free:Bool)(g:Option Bool)(d:Option Nat)(s:St)(f:Nat)(bs:List AV)(ids:List Nat):Option St:=
 if (cZ (bs.flatMap AV.cells)).isSome=true then mR x free g d s f ids (x.call f bs []) (s6 x.call f bs (share s.hp ids)) else yM free g d s (s6 x.call f bs (share s.hp ids))
def o_(x:X)(rd:Hp)(free:Bool)(g:Option Bool)(d:Option Nat)(s:St)(f:Nat)(as:List AV)(K:Bool):Option St:=
 if cF x.nt d=true∧n5 g K=true then ME x free g d s f (dS (x.T.muts f) rd as) (bO (x.T.muts f) as) else none
def GC(x:X)(free:Bool)(g:Option Bool)(d:Option Nat)(s:St)(id:Nat)(as:List AV)(K:Bool):Option St:=
 if cF x.nt d=true∧n5 g K=true then sU x free g d s id as else none
def vC(x:X)(rd:Hp)(free:Bool)(g:Option Bool)(d:Option Nat)(s:St)(v:AV)(as:List AV)(K:Bool):Option St:=match v with
 | .p (.fb f cs)=>o_ x rd free g d s f (cs.map PV.up++as) K
 | .p (.fn f cs)=>o_ x rd free g d s f (as++cs.map PV.up) K
 | .fn f cs=>o_ x rd free g d s f (as++cs) K
 | .yl id=>GC x free g d s id as K
 |_=>if cF x.nt d=true∧g=some false then some ⟨bJ s.tm d (.gd false .undef),s.hp⟩ else none
theorem AS(x:X)(rd:Hp)(free:Bool)(g:Option Bool)(d:Option Nat)(s:St)(f:Nat)(as:List AV):
  Qi x rd free g d s f as=ME x free g d s f (dS (x.T.muts f) rd as) (bO (x.T.muts f) as):=rfl
theorem Qf(x:X)(rd:Hp)(free:Bool)(g:Option Bool)(d:Option Nat)(s:St)(f:Operand)(args:Array Operand)(ts:Array Nat):
  jW x rd free g d (.call ⟨.value f,args,ts⟩) s=vC x rd free g d s (uv (aX s.tm f)) (gG s.tm args.toList) (uk true (aX s.tm f)&&ef true s.tm args.toList):=by
 have hA:pY x.T (ly x.T x.f d) rd s.tm (.call ⟨.value f,args,ts⟩)=none:=rfl
 have hV:sr x.T rd s.tm (.call ⟨.value f,args,ts⟩)=none:=rfl
 have hC:eJ (.call ⟨.value f,args,ts⟩)=some (f,args.toList):=rfl
 have hK:n5 g (gu (g.getD true) s.tm (.call ⟨.value f,args,ts⟩))=n5 g (uk true (aX s.tm f)&&ef true s.tm args.toList):=
  BR _ _ _ fun h=>by simp[gu,ef,h]
 have XG:(!g.getD true||gu (g.getD true) s.tm (.call ⟨.value f,args,ts⟩))=n5 g (uk true (aX s.tm f)&&ef true s.tm args.toList):=by
  rw[←hK];cases g<;>simp[n5]
 simp only[jW,jP,hA,hV,hC,aW,bd,XG]
 unfold vC
 cases hd:cF x.nt d
 ·simp only[mO,b7]
  split<;>simp[o_,GC,hd]
 ·cases hk:n5 g (uk true (aX s.tm f)&&ef true s.tm args.toList)
  ·simp only[mN,mO,aN,b7]
   split<;>first
    |(simp[o_,GC,hd,hk];done)
    |(have hgn:¬g=some false:=(by rintro rfl;simp[n5] at hk);simp[hd,hgn])
  ·simp only[mN,aN]
   have apv:(if g.getD true=true then none else some (⟨bJ s.tm d (.gd false .undef),s.hp⟩:St))=if cF x.nt d=true∧g=some false then some ⟨bJ s.tm d (.gd false .undef),s.hp⟩ else none:=by
    cases g with
    |none=>simp
    |some b=>cases b<;>simp[hd]
   have acV:=apv
   simp only[hd,true_and] at acV
   cases h:uv (aX s.tm f) with
   |p y=>
    cases y<;>first
     |(simp[yieldOf,dH,h,aW,bd,o_,hd,hk,AS];done)
     |(simp only[yieldOf,dH,h,aW];simp only[true_and];exact acV)
   |fn f' cs=>simp[yieldOf,dH,h,aW,bd,o_,hd,hk,AS]
   |yl id=>simp[yieldOf,h,bd,GC,hd,hk]
   |_=>simp only[yieldOf,dH,h,aW];simp only[true_and];exact acV
attribute [simp ↓] Qf
section
variable (x:X) (rd:Hp) (free:Bool) (d:Option Nat) (s:St)
@[simp] theorem aiw(g:Option Bool)(f:Nat)(cs:List PV)(as:List AV)(K:Bool):vC x rd free g d s (.p (.fn f cs)) as K=o_ x rd free g d s f (as++cs.map PV.up) K:=rfl
@[simp] theorem aix(g:Option Bool)(f:Nat)(cs:List PV)(as:List AV)(K:Bool):vC x rd free g d s (.p (.fb f cs)) as K=o_ x rd free g d s f (cs.map PV.up++as) K:=rfl
@[simp] theorem aqw(g:Option Bool)(f:Nat)(cs:List AV)(as:List AV)(K:Bool):vC x rd free g d s (.fn f cs) as K=o_ x rd free g d s f (as++cs) K:=rfl
@[simp] theorem Xh(as:List AV)(K:Bool):vC x rd free (some false) d s .undef as K=if cF x.nt d=true then some ⟨bJ s.tm d (.gd false .undef),s.hp⟩ else none:=by simp[vC]
@[simp] theorem aqv(g:Option Bool)(id:Nat)(as:List AV)(K:Bool):vC x rd free g d s (.yl id) as K=GC x free g d s id as K:=rfl
@[simp] theorem aqx(g:Option Bool)(f:Nat)(as:List AV)(K:Bool):o_ x rd free g d s f as K=if cF x.nt d=true∧n5 g K=true then ME x free g d s f (dS (x.T.muts f) rd as) (bO (x.T.muts f) as) else none:=rfl
@[simp] theorem azs(g:Option Bool)(f:Nat)(bs:List AV)(ids:List Nat):ME x free g d s f bs ids=if (cZ (bs.flatMap AV.cells)).isSome=true then mR x free g d s f ids (x.call f bs []) (s6 x.call f bs (share s.hp ids)) else yM free g d s (s6 x.call f bs (share s.hp ids)):=rfl
@[simp] theorem Im(f:Nat)(ids:List Nat)(v:AV)(rh:Option (AV×Hp)):mR x free none d s f ids (some (v,[])) rh=
   if scalar v=true∨x.T.fresh f=true then some ⟨bJ s.tm d v,s.hp⟩ else if free=true∧ids≠[] then none else some ⟨bJ s.tm d v,share s.hp ids⟩:=rfl
@[simp] theorem zI(f:Nat)(ids:List Nat)(v:AV)(rh:Option (AV×Hp)):mR x free (some true) d s f ids (some (v,[])) rh=
   if scalar v=true∨x.T.fresh f=true then some ⟨bJ s.tm d (.gd true v),s.hp⟩ else if free=true∧ids≠[] then none else some ⟨bJ s.tm d (.gd true v),share s.hp ids⟩:=rfl
@[simp] theorem UN(g:Bool)(f:Nat)(ids:List Nat)(v:AV)(rh:Option (AV×Hp))(h:scalar v=true∨x.T.fresh f=true):mR x free (some g) d s f ids (some (v,[])) rh=some ⟨bJ s.tm d (.gd g v),s.hp⟩:=by
  simp[mR,bd,h,m8]
@[simp] theorem adI(f:Nat)(ids:List Nat)(v:AV)(o:Obj)(os:List Obj)(rh:Option (AV×Hp)):mR x free none d s f ids (some (v,o::os)) rh=
   if free=false∧(o::os).all lY=true then some ⟨bJ s.tm d (np s.hp.length v),share s.hp ids++o::os⟩
   else if free=false then aQ rh fun r=>some ⟨bJ s.tm d r.1,r.2⟩
   else if (o::os).all lY=true∧ids=[] then some ⟨bJ s.tm d (np s.hp.length v),s.hp++o::os⟩ else none:=by
  simp[mR,bd,m8]
def gO(x:X)(f:Nat)(bs:List AV):AV:=
 if (cZ (bs.flatMap AV.cells)).isSome=true then match x.call f bs [] with
  |some (v,[])=>if scalar v=true∨x.T.fresh f=true then v else .undef
  |_=>.undef
 else .undef
@[simp ↓] theorem au1(f:Nat)(bs:List AV)(ids:List Nat):ME x free (some false) d s f bs ids=some ⟨bJ s.tm d (.gd false (gO x f bs)),s.hp⟩:=by
  unfold ME gO
  split
  ·match x.call f bs [] with
   |none=>rfl
   |some (v,[])=>
    by_cases h:scalar v=true∨x.T.fresh f=true
    ·simp[mR,bd,m8,h]
    ·simp[mR,bd,m8,h]
   |some (v,o::os)=>simp[mR,bd]
  ·rfl
@[simp] theorem adJ(v:AV)(h:Hp):yM false none d s (some (v,h))=some ⟨bJ s.tm d v,h⟩:=rfl
@[simp] theorem asO(id:Nat)(as:List AV)(K:Bool):GC x false none d s id as K=if cF x.nt d=true∧K=true then yM false none d s (aQ (x.yield id as s.hp) fun r=>some (.p (.bool r.1),r.2)) else none:=by
  unfold GC
  by_cases h:cF x.nt d=true∧K=true
  ·rw[if_pos (show cF x.nt d=true∧n5 none K=true from h),if_pos h];simp only[sU,yM];cases x.yield id as s.hp<;>rfl
  ·rw[if_neg (show¬(cF x.nt d=true∧n5 none K=true) from h),if_neg h]
end
def OH(s:St)(n:Nat)(r:Option (AV×Hp)):Option (Ex×St):=aQ r fun r=>qJ s (r.2.at n) (r.2.set n .dead)
@[simp] theorem agq(s:St)(n:Nat)(v:AV)(h:Hp):OH s n (some (v,h))=qJ s (h.at n) (h.set n .dead):=rfl
def Tk(x:X)(id:Nat)(s:St)(K:Bool)(v:AV):Option (Ex×St):=match v with
 | .p (.fn f cs)=>if x.rnd=false∧K=true then OH s s.hp.length (x.call f (dS (x.T.muts f) s.hp (.yl s.hp.length::cs.map PV.up)) (share s.hp (bO (x.T.muts f) (cs.map PV.up))++[.loop .ready x.f id s.tm])) else none
 | .fn f cs=>if x.rnd=false∧K=true then OH s s.hp.length (x.call f (dS (x.T.muts f) s.hp (.yl s.hp.length::cs)) (share s.hp (bO (x.T.muts f) cs)++[.loop .ready x.f id s.tm])) else none
 |_=>none
@[simp] theorem as2(x:X)(id:Nat)(s:St)(K:Bool)(f:Nat)(cs:List AV):Tk x id s K (.fn f cs)=if x.rnd=false∧K=true then OH s s.hp.length (x.call f (dS (x.T.muts f) s.hp (.yl s.hp.length::cs)) (share s.hp (bO (x.T.muts f) cs)++[.loop .ready x.f id s.tm])) else none:=rfl
@[simp] theorem aib(x:X)(g:Operand)(ps:Array Nat)(a b:Code)(id:Nat)(s:St):ia x (.rangeFunc g ps a b) id s=Tk x id s (uk true (aX s.tm g)) (uv (aX s.tm g)):=by
  simp only[ia,Tk,mQ]
  by_cases h:x.rnd=false∧uk true (aX s.tm g)=true
  ·simp only[if_pos h]
   cases uv (aX s.tm g) with
   |p y=>cases y<;>rfl
   |_=>rfl
  ·simp only[if_neg h]
   cases uv (aX s.tm g) with
   |p y=>cases y<;>rfl
   |_=>rfl
@[simp] theorem Tx(s:St)(f h_:Nat)(tm:Tm)(h:Hp):qJ s (.loop .ready f h_ tm) h=some (.nor,⟨s.tm,h⟩):=rfl
@[simp] theorem V7(s:St)(e:Ex)(f h_:Nat)(tm:Tm)(h:Hp):qJ s (.loop (.done e) f h_ tm) h=some (e,⟨s.tm,h⟩):=rfl
section
variable (tm:Tm) (h:Hp)
@[simp] theorem auR(i:Nat):aX tm (.tmp i)=look tm i:=rfl
@[simp] theorem ap5(i:Nat):aX tm (.func i)=.p (.fn i []):=rfl
@[simp] theorem auT(k:IntKind)(n:Int):aX tm (.const (.int k n))=.p (.int k n):=rfl
@[simp] theorem ap6(b:Bool):aX tm (.const (.bool b))=.p (.bool b):=rfl
@[simp] theorem auS(b:ByteArray):aX tm (.const (.string b))=.p (.str b):=rfl
@[simp] theorem ap0:aX tm (.const (.slice none 0 0))=.p .nils:=rfl
@[simp] theorem ap1:aX tm (.const (.pointer none))=.p .nilp:=rfl
@[simp] theorem ap4:aX tm (.const .nilFunc)=.p .nilf:=rfl
@[simp] theorem ap3:aX tm (.const .nilIface)=.p .nili:=rfl
@[simp] theorem ap2:aX tm (.const (.map none))=.p .nilm:=rfl
@[simp] theorem auU(cs:Array Value):aX tm (.const (.agg cs))=((lU cs.toList).map AV.agg).getD .undef:=rfl
@[simp] theorem abJ:lU []=some []:=rfl
@[simp] theorem Wf(v:Value)(r:List Value):lU (v::r)=(gP v).bind fun x=>(lU r).map (x::·):=rfl
@[simp] theorem abL(k:IntKind)(n:Int):gP (.int k n)=some (.p (.int k n)):=rfl
@[simp] theorem Wl(b:Bool):gP (.bool b)=some (.p (.bool b)):=rfl
@[simp] theorem abK(b:ByteArray):gP (.string b)=some (.p (.str b)):=rfl
@[simp] theorem Wg:gP (.slice none 0 0)=some (.p .nils):=rfl
@[simp] theorem Wh:gP (.pointer none)=some (.p .nilp):=rfl
@[simp] theorem Wk:gP .nilFunc=some (.p .nilf):=rfl
@[simp] theorem Wj:gP .nilIface=some (.p .nili):=rfl
@[simp] theorem Wi:gP (.map none)=some (.p .nilm):=rfl
@[simp] theorem ack:lX (.const (.slice none 0 0))=true:=rfl
@[simp] theorem acm(i:Nat):lX (.tmp i)=false:=rfl
@[simp] theorem aco(k:IntKind)(n:Int):lX (.const (.int k n))=false:=rfl
@[simp] theorem Wx(b:Bool):lX (.const (.bool b))=false:=rfl
@[simp] theorem acp(b:Array Value):lX (.const (.agg b))=false:=rfl
@[simp] theorem acn(b:ByteArray):lX (.const (.string b))=false:=rfl
@[simp] theorem auQ:gG tm []=[]:=rfl
@[simp] theorem apZ(a:Operand)(r:List Operand):gG tm (a::r)=uv (aX tm a)::gG tm r:=rfl
@[simp] theorem au3(b:Bool):ef b tm []=true:=rfl
@[simp] theorem aqp(b:Bool)(a:Operand)(r:List Operand):ef b tm (a::r)=(uk b (aX tm a)&&ef b tm r):=rfl
end
@[simp] theorem aBH(y:PV):uv (.p y)=.p y:=rfl
@[simp] theorem axd(y:List AV):uv (.agg y)=.agg y:=rfl
@[simp] theorem aw9(a b:Nat):uv (.ref a b)=.ref a b:=rfl
@[simp] theorem axc(a b c d:Nat):uv (.arr a b c d)=.arr a b c d:=rfl
@[simp] theorem axb(a b c d:Nat):uv (.elt a b c d)=.elt a b c d:=rfl
@[simp] theorem aAp(a:Nat)(l:List AV):uv (.fn a l)=.fn a l:=rfl
@[simp] theorem aAn(a:Nat):uv (.yl a)=.yl a:=rfl
@[simp] theorem axa(a:Nat):uv (.map a)=.map a:=rfl
@[simp] theorem aw8(l:List AV):uv (.tup l)=.tup l:=rfl
@[simp] theorem aAo(b:Bool)(v:AV):uv (.gd b v)=v:=rfl
@[simp] theorem als:uv .undef=.undef:=rfl
@[simp] theorem aBI(g:Bool)(y:PV):uk g (.p y)=true:=rfl
@[simp] theorem axo(g:Bool)(y:List AV):uk g (.agg y)=true:=rfl
@[simp] theorem axk(g:Bool)(a b:Nat):uk g (.ref a b)=true:=rfl
@[simp] theorem axn(g:Bool)(a b c d:Nat):uk g (.arr a b c d)=true:=rfl
@[simp] theorem axm(g:Bool)(a b c d:Nat):uk g (.elt a b c d)=true:=rfl
@[simp] theorem aAu(g:Bool)(a:Nat)(l:List AV):uk g (.fn a l)=true:=rfl
@[simp] theorem aAs(g:Bool)(a:Nat):uk g (.yl a)=true:=rfl
@[simp] theorem axl(g:Bool)(a:Nat):uk g (.map a)=true:=rfl
@[simp] theorem axj(g:Bool)(l:List AV):uk g (.tup l)=true:=rfl
@[simp] theorem alu(g:Bool):uk g .undef=true:=rfl
@[simp] theorem aAt(g b:Bool)(v:AV):uk g (.gd b v)=(!g||b):=rfl
attribute [simp] look put fK cZ
@[simp] theorem agC(t:Tm)(i:Nat)(v:AV):bJ t (some i) v=put t i v:=rfl
@[simp] theorem agD(t:Tm)(v:AV):bJ t none v=t:=rfl
@[simp] theorem an0(v:AV):m8 none v=v:=rfl
@[simp] theorem anZ(b:Bool)(v:AV):m8 (some b) v=.gd b v:=rfl
@[simp] theorem adu(n:Nat):cF n none=true:=rfl
@[simp] theorem adt(n d:Nat):cF n (some d)=decide (d<n):=rfl
@[simp] theorem anP(b:Bool):n5 none b=b:=rfl
def rP(g o K:Bool):Bool:= !g||(o&&K)
def Hw(b kx ky:Bool):Bool:=(!b||kx)&&(b||ky)
@[simp] theorem anO(g b:Bool):n5 (some g) b=rP g true b:=by simp[n5,rP]
section
variable (g b c o K kx ky:Bool)
@[simp] theorem ah2:rP false o K=true:=rfl
@[simp] theorem azf:rP g true true=true:=by simp[rP]
@[simp] theorem apS:rP g true g=true:=by cases g<;>rfl
@[simp] theorem aBl:rP (g&&b) true g=true:=by cases g<;>cases b<;>rfl
@[simp] theorem aBk:rP (g&&b) true b=true:=by cases g<;>cases b<;>rfl
@[simp] theorem azo:rP ((g&&b)&&c) true g=true:=by cases g<;>cases b<;>cases c<;>rfl
@[simp] theorem azn:rP ((g&&b)&&c) true b=true:=by cases g<;>cases b<;>cases c<;>rfl
@[simp] theorem auK:rP g true (b&&c)=(rP g true b&&rP g true c):=by cases g<;>cases b<;>cases c<;>rfl
@[simp] theorem apT:rP g (b&&c) true=(rP g b true&&rP g c true):=by cases g<;>cases b<;>cases c<;>rfl
@[simp] theorem azg:rP g (Hw b (g&&b) (g&& !b)) true=true:=by cases g<;>cases b<;>rfl
@[simp] theorem axK:Hw b true true=true:=by cases b<;>rfl
@[simp] theorem aAz:Hw true kx ky=kx:=by cases kx<;>cases ky<;>rfl
@[simp] theorem aAA:Hw false kx ky=ky:=by cases kx<;>cases ky<;>rfl
@[simp] theorem aAB:Hw b b true=true:=by cases b<;>rfl
@[simp] theorem axM:Hw b true (!b)=true:=by cases b<;>rfl
@[simp] theorem axL:Hw (!b) true b=true:=by cases b<;>rfl
@[simp] theorem att:Hw b b (!b)=true:=by cases b<;>rfl
@[simp] theorem azm:rP g (Hw b (g&&b) true) true=true:=by cases g<;>cases b<;>rfl
@[simp] theorem azl:rP g (Hw b true (g&& !b)) true=true:=by cases g<;>cases b<;>rfl
@[simp] theorem azk:rP g (Hw b g true) true=true:=by cases g<;>cases b<;>rfl
@[simp] theorem azj:rP g (Hw b true g) true=true:=by cases g<;>cases b<;>rfl
@[simp] theorem azi:rP (g&&c) (Hw b g true) true=true:=by cases g<;>cases b<;>cases c<;>rfl
@[simp] theorem azh:rP (g&&c) (Hw b true g) true=true:=by cases g<;>cases b<;>cases c<;>rfl
end
@[simp] theorem ahf(T:cX)(f:Nat):ly T f none=0:=rfl
@[simp] theorem ahe(T:cX)(f d:Nat):ly T f (some d)=T.own f d:=rfl
section
variable (nt:Nat) (d:Option Nat) (s:St) (K:Bool)
@[simp] theorem agv(r:O):im nt d none s r K=if cF nt d=true∧(r.ok=true∧K=true) then some ⟨bJ s.tm d r.v,s.hp⟩ else none:=by
  simp only[im]
  cases cF nt d<;>cases h:r.ok<;>cases K<;>simp[n5,rG,aN,b7,m8]
@[simp] theorem agu(g:Bool)(r:O):im nt d (some g) s r K=if cF nt d=true∧(rP g r.ok true=true∧rP g true K=true) then some ⟨bJ s.tm d (.gd g r.v),s.hp⟩ else none:=by
  simp only[im]
  cases cF nt d<;>cases h:r.ok<;>cases K<;>cases g<;>simp[n5,rP,rG,aN,b7,m8]
@[simp] theorem an2(a:A):HK nt d none s a K=if cF nt d=true∧(a.ok=true∧K=true) then some ⟨bJ s.tm d (a.mk s.hp.length),s.hp++a.obj s.hp.length::a.aux⟩ else none:=by
  simp only[HK]
  cases cF nt d<;>cases h:a.ok<;>cases K<;>simp[n5,rG,aN,b7,m8]
@[simp] theorem an1(g:Bool)(a:A):HK nt d (some g) s a K=if cF nt d=true∧(rP g a.ok true=true∧rP g true K=true) then some ⟨bJ s.tm d (.gd g (a.mk s.hp.length)),s.hp++a.obj s.hp.length::a.aux⟩ else none:=by
  simp only[HK]
  cases cF nt d<;>cases h:a.ok<;>cases K<;>cases g<;>simp[n5,rP,rG,aN,b7,m8]
@[simp] theorem ai4(g:Option Bool)(r:O):p' nt d g s (some r) K=im nt d g s r K:=rfl
def U8(d:Option Nat)(tm:Tm)(r:Option (Hp×AV)):Option St:=match r with
 |some (h,v)=>some ⟨bJ tm d v,h⟩
 |none=>none
@[simp] theorem alg(tm:Tm)(h:Hp)(v:AV):U8 d tm (some (h,v))=some ⟨bJ tm d v,h⟩:=rfl
@[simp] theorem alh(r:Option (Hp×AV)):Dn nt d false none s r K=if cF nt d=true∧K=true then U8 d s.tm r else none:=by
  simp only[Dn]
  cases cF nt d<;>cases K<;>cases r<;>simp[n5,rG,aN,b7,m8,U8]
@[simp] theorem ahm(x:X)(g:Option Bool)(a:A):xE x g d s (some a) K=HK x.nt d g s a K:=rfl
@[simp] theorem aiV(x:X)(g:Option Bool)(b:Bool)(v:AV):FP x g d s 0 b v=im x.nt d g s ⟨uv v,true⟩ (uk true v):=by simp[FP]
@[simp] theorem aeO(x:X)(g:Option Bool)(n:Nat)(v:AV):FP x g d s n false v=im x.nt d g s ⟨uv v,true⟩ (uk true v):=by simp[FP]
@[simp] theorem aiW(x:X)(g:Option Bool)(n:Nat)(v:AV):FP x g d s (n+1) true v=HK x.nt d g s ⟨fun id=>.arr id 0 0 0,fun _=>.arr 0 (n+1) false [],[],true⟩ true:=by simp[FP]
@[simp] theorem aiJ(x:X)(g:Option Bool)(r:O):UP x g d s 0 r K=im x.nt d g s r K:=by simp[UP]
end
@[simp] theorem aiH(cs:List AV)(ok:Bool):s_ 0 cs ok=⟨fun id=>.ref id 0,fun _=>.box cs,[],ok⟩:=rfl
@[simp] theorem aiI(n:Nat)(cs:List AV)(ok:Bool):s_ (n+1) cs ok=⟨fun id=>.ref id 0,fun id=>.box ((dM (.arr (id+1) 0 0 0) cs).getD cs),[.arr 0 (n+1) false []],ok⟩:=rfl
@[simp] theorem Wa(v:AV)(r:List AV):dM v (.p .nils::r)=some (v::r):=rfl
@[simp] theorem Wb(v:AV)(r:List AV):dM v (.p .nilm::r)=(dM v r).map (.p .nilm::·):=rfl
@[simp] theorem abv(v:AV)(m:Nat)(r:List AV):dM v (.map m::r)=(dM v r).map (.map m::·):=rfl
@[simp] theorem abw(v:AV)(k:IntKind)(n:Int)(r:List AV):dM v (.p (.int k n)::r)=(dM v r).map (.p (.int k n)::·):=rfl
@[simp] theorem aiF(own:Nat)(i:TI)(v:AV):ad0 own (some i) v=some (s_ own v.cells (decide (v.cells.length=i.size∧v.cells.all AV.one=true))):=rfl
@[simp] theorem ajE(v:AV):O.of (some v)=⟨v,true⟩:=rfl
@[simp] theorem alf(y:PV):AV.cells (.p y)=[.p y]:=rfl
@[simp] theorem Zf(y:List AV):AV.cells (.agg y)=y:=rfl
@[simp] theorem Zc(a b:Nat):AV.cells (.ref a b)=[.ref a b]:=rfl
@[simp] theorem Ze(a b c d:Nat):AV.cells (.arr a b c d)=[.arr a b c d]:=rfl
@[simp] theorem agd(a:Nat)(l:List AV):AV.cells (.fn a l)=[.fn a l]:=rfl
@[simp] theorem agc(a:Nat):AV.cells (.yl a)=[.yl a]:=rfl
@[simp] theorem Zd(a:Nat):AV.cells (.map a)=[.map a]:=rfl
@[simp] theorem YX(y:List PV):PV.cells (.agg y)=y:=rfl
@[simp] theorem YW(k:IntKind)(n:Int):PV.cells (.int k n)=[.int k n]:=rfl
@[simp] theorem VA(b:Bool):PV.cells (.bool b)=[.bool b]:=rfl
@[simp] theorem YV(b:ByteArray):PV.cells (.str b)=[.str b]:=rfl
@[simp] theorem afp(b:List PV):PV.cells (.sl b)=[.sl b]:=rfl
@[simp] theorem Vz:PV.cells .nils=[.nils]:=rfl
@[simp] theorem at6(k:IntKind)(n:Int):AV.one (.p (.int k n))=true:=rfl
@[simp] theorem anL(b:Bool):AV.one (.p (.bool b))=true:=rfl
@[simp] theorem at0(b:ByteArray):AV.one (.p (.str b))=true:=rfl
@[simp] theorem axS(b:List PV):AV.one (.p (.sl b))=true:=rfl
@[simp] theorem anH:AV.one (.p .nils)=true:=rfl
@[simp] theorem at3(b:List PV)(o:Nat):AV.one (.p (.ptr b o))=true:=rfl
@[simp] theorem at4(b:List PV)(o:Nat):AV.one (.p (.fn o b))=true:=rfl
@[simp] theorem anI:AV.one (.p .nilp)=true:=rfl
@[simp] theorem anK:AV.one (.p .nilf)=true:=rfl
@[simp] theorem anJ:AV.one (.p .nilm)=true:=rfl
@[simp] theorem at2(a b:Nat):AV.one (.ref a b)=true:=rfl
@[simp] theorem at7(a b c d:Nat):AV.one (.arr a b c d)=true:=rfl
@[simp] theorem axT(a:Nat)(l:List AV):AV.one (.fn a l)=true:=rfl
@[simp] theorem axR(a:Nat):AV.one (.yl a)=true:=rfl
@[simp] theorem at5(a:Nat):AV.one (.map a)=true:=rfl
@[simp] theorem avm(o:Obj)(r:Hp):Hp.at (o::r) 0=o:=rfl
@[simp] theorem avn(o:Obj)(r:Hp)(n:Nat):Hp.at (o::r) (n+1)=Hp.at r n:=rfl
@[simp] theorem abe(b:Bool)(x y:AV):DX (.p (.bool b)) x y=some (sf b x y):=rfl
@[simp] theorem amo(c b:Bool)(x y:AV):DX (.gd c (.p (.bool b))) x y=some (sf b x y):=rfl
def xk(b kx ky:Bool):AV→AV→O
 | .p (.bool p),.p (.bool q)=>⟨.p (.bool (if b then p else q)),(!b||kx)&&(b||ky)⟩
 |x',y'=>if b=true then⟨x',kx⟩ else⟨y',ky⟩
@[simp] theorem amp(b:Bool)(x y:AV):sf b x y=xk b (uk true x) (uk true y) (uv x) (uv y):=by
  simp only[sf,xk];rfl
@[simp] theorem abf(kx ky:Bool)(x y:AV):xk true kx ky x y=⟨x,kx⟩:=by
  unfold xk;split<;>simp
@[simp] theorem V8(kx ky:Bool)(x y:AV):xk false kx ky x y=⟨y,ky⟩:=by
  unfold xk;split<;>simp
def Pr(b p q:Bool):Bool:=if b then p else q
def aj(a b:Bool):Bool:=a&&b
def cE(a b:Bool):Bool:=a||b
@[simp] theorem aor(a b:Bool):Pr a b false=aj a b:=by cases a<;>rfl
@[simp] theorem auc(a b:Bool):Pr a true b=cE a b:=by cases a<;>rfl
@[simp] theorem ai5(b:Bool):aj true b=b:=by cases b<;>rfl
@[simp] theorem aeZ(b:Bool):aj false b=false:=by cases b<;>rfl
@[simp] theorem aeY(b:Bool):aj b true=b:=by cases b<;>rfl
@[simp] theorem XP(b:Bool):aj b false=false:=by cases b<;>rfl
@[simp] theorem anA(b:Bool):cE true b=true:=by cases b<;>rfl
@[simp] theorem ahi(b:Bool):cE false b=b:=by cases b<;>rfl
@[simp] theorem ahh(b:Bool):cE b true=true:=by cases b<;>rfl
@[simp] theorem abx(b:Bool):cE b false=b:=by cases b<;>rfl
@[simp] theorem atZ(a b:Bool):cE (!a) (!b)= !aj a b:=by cases a<;>cases b<;>rfl
@[simp] theorem ai6(a:Bool):aj a a=a:=by cases a<;>rfl
@[simp] theorem anB(a:Bool):cE a a=a:=by cases a<;>rfl
@[simp] theorem ahD(p q:Bool):Pr true p q=p:=rfl
@[simp] theorem ab7(p q:Bool):Pr false p q=q:=rfl
@[simp] theorem abg(b kx ky p q:Bool):xk b kx ky (.p (.bool p)) (.p (.bool q))=⟨.p (.bool (Pr b p q)),Hw b kx ky⟩:=rfl
def vg(i:Option TI)(c:Option (List AV×Nat)):O:=match i,c with
 |some i,some (cs,off)=>
  if aO i.desc then⟨.agg ((cs.drop off).take i.size),decide (off+i.size≤cs.length)⟩
  else⟨cs.getD off .undef,decide (off<cs.length)⟩
 |_,_=>.bad
@[simp] theorem aoc(T:cX)(h:Hp)(t:Nat)(a:AV):ql T h t a=vg (T.info t) (o9 T h a):=rfl
@[simp] theorem abX(i:TI)(cs:List AV)(off:Nat):vg (some i) (some (cs,off))=if aO i.desc=true then⟨.agg ((cs.drop off).take i.size),decide (off+i.size≤cs.length)⟩ else⟨cs.getD off .undef,decide (off<cs.length)⟩:=rfl
@[simp] theorem acu(k:IntKind):aO (.int k)=false:=rfl
@[simp] theorem WA:aO .bool=false:=rfl
@[simp] theorem R_:aO .string=false:=rfl
@[simp] theorem T4(e:Nat):aO (.slice e)=false:=rfl
@[simp] theorem Pv(e:Nat):aO (.pointer e)=false:=rfl
@[simp] theorem acs(k e:Nat):aO (.map k e)=false:=rfl
@[simp] theorem Wz(k e:Array Nat)(b:Bool):aO (.func k e b)=false:=rfl
@[simp] theorem R9(e:Array Field):aO (.struct e)=true:=rfl
def FI(off:Nat):Obj→Option (List AV×Nat)
 | .box cs=>some (cs,off)
 |_=>none
def Qn(g i off:Nat):Obj→Option (List AV×Nat)
 | .arr g' _ _ es=>if g=g' then(es[i]?).map fun x=>(x.cells.map .p,off) else none
 |_=>none
@[simp] theorem aqr(T:cX)(h:Hp)(x:PV):o9 T h (.p x)=iE h (.p x):=rfl
@[simp] theorem adC(T:cX)(h:Hp)(id off:Nat):o9 T h (.ref id off)=iE h (.ref id off):=rfl
@[simp] theorem adD(T:cX)(h:Hp)(id g i off:Nat):o9 T h (.elt id g i off)=iE h (.elt id g i off):=rfl
@[simp] theorem Xb(T:cX)(h:Hp)(g:Nat):o9 T h (.glob g)=(T.glob g).map fun cs=>(cs.map .p,0):=rfl
@[simp] theorem Xd(h:Hp)(cs:List PV)(off:Nat):iE h (.p (.ptr cs off))=some (cs.map .p,off):=rfl
@[simp] theorem Xc(h:Hp)(id off:Nat):iE h (.ref id off)=FI off (h.at id):=by simp only[iE,FI];rfl
@[simp] theorem Xe(h:Hp)(id g i off:Nat):iE h (.elt id g i off)=Qn g i off (h.at id):=by simp only[iE,Qn];rfl
@[simp] theorem aiG(off:Nat)(cs:List AV):FI off (.box cs)=some (cs,off):=rfl
@[simp] theorem aiq(g i off g' sz:Nat)(sh:Bool)(es:List PV):Qn g i off (.arr g' sz sh es)=if g=g' then(es[i]?).map fun x=>(x.cells.map .p,off) else none:=rfl
@[simp] theorem aaF(n:Nat)(cs:List PV)(off:Nat):nq n (.p (.ptr cs off))=some (.p (.ptr cs (off+n))):=rfl
@[simp] theorem aaE(n id off:Nat):nq n (.ref id off)=some (.ref id (off+n)):=rfl
@[simp] theorem aaG(n id g i off:Nat):nq n (.elt id g i off)=some (.elt id g i (off+n)):=rfl
def Qd(f:Option (Nat×TI))(x:AV):O:=match f with
 |some (off,i)=>if i.size=0 then .bad else .of (nq off x)
 |none=>.bad
@[simp] theorem ah9(T:cX)(t:Nat)(x:AV)(f:Nat):uF T t x f=Qd (abd T t f) x:=rfl
@[simp] theorem W2(off:Nat)(i:TI)(x:AV):Qd (some (off,i)) x=if i.size=0 then .bad else .of (nq off x):=rfl
def V9(f:Option (Nat×TI))(x:AV):O:=match f,x with
 |some (off,i),.agg cs=>
  if aO i.desc then⟨.agg ((cs.drop off).take i.size),decide (off+i.size≤cs.length)⟩
  else⟨cs.getD off .undef,decide (off<cs.length)⟩
 |_,_=>.bad
@[simp] theorem ams(T:cX)(t:Nat)(x:AV)(f:Nat):D7 T t x f=V9 (abd T t f) x:=rfl
@[simp] theorem abi(off:Nat)(i:TI)(cs:List AV):V9 (some (off,i)) (.agg cs)=if aO i.desc=true then⟨.agg ((cs.drop off).take i.size),decide (off+i.size≤cs.length)⟩ else⟨cs.getD off .undef,decide (off<cs.length)⟩:=rfl
def aoz(e:Option TI)(l:List PV)(n:Int):O:=match e with
 |some e=>⟨.p (.ptr (l.getD n.toNat .nils).cells 0),decide (0≤n∧n<(l.length:Int))&&decide ((l.getD n.toNat .nils).cells.length=e.size)⟩
 |none=>.bad
def acA(e:Option TI)(id g off len:Nat)(n:Int):Obj→O
 | .arr g' sz _ es=>match e with
  |some e=>⟨.elt id g (off+n.toNat) 0,decide (0≤n∧n<(len:Int))&&(decide (g=g'∧sz=e.size∧off+len≤es.length))⟩
  |none=>.bad
 |_=>.bad
@[simp] theorem Sa(T:cX)(h:Hp)(t:Nat)(l:List PV)(k:IntKind)(n:Int):dm T h t (.p (.sl l)) (.p (.int k n))=aoz (elemOf T t) l n:=rfl
@[simp] theorem Pz(T:cX)(h:Hp)(t id g off len:Nat)(k:IntKind)(n:Int):dm T h t (.arr id g off len) (.p (.int k n))=acA (elemOf T t) id g off len n (h.at id):=by
  simp only[dm,acA]
  cases elemOf T t<;>cases h.at id<;>rfl
@[simp] theorem ahI(e:TI)(l:List PV)(n:Int):aoz (some e) l n=⟨.p (.ptr (l.getD n.toNat .nils).cells 0),decide (0≤n∧n<(l.length:Int))&&decide ((l.getD n.toNat .nils).cells.length=e.size)⟩:=rfl
@[simp] theorem ahH(e:TI)(id g off len g' sz:Nat)(sh:Bool)(es:List PV)(n:Int):acA (some e) id g off len n (.arr g' sz sh es)=⟨.elt id g (off+n.toNat) 0,decide (0≤n∧n<(len:Int))&&(decide (g=g'∧sz=e.size∧off+len≤es.length))⟩:=rfl
@[simp] theorem anS(cs:List PV)(o:Nat):Lb (.p (.ptr cs o))=some ⟨.p (.ptr cs o),true⟩:=rfl
@[simp] theorem anR(i o:Nat):Lb (.ref i o)=some ⟨.ref i o,true⟩:=rfl
@[simp] theorem anT(i g n o:Nat):Lb (.elt i g n o)=some ⟨.elt i g n o,true⟩:=rfl
@[simp] theorem aua(e:Nat)(l:List PV):Em (some (.slice e)) (.p (.sl l))=some ⟨.p (.int .i64 l.length),true⟩:=rfl
@[simp] theorem ahv(e:Nat):Em (some (.slice e)) (.p .nils)=some ⟨.p (.int .i64 0),true⟩:=rfl
@[simp] theorem aog(e a b c k:Nat):Em (some (.slice e)) (.arr a b c k)=some ⟨.p (.int .i64 k),true⟩:=rfl
@[simp] theorem aoe(b:ByteArray):Em (some .string) (.p (.str b))=some ⟨.p (.int .i64 b.size),true⟩:=rfl
@[simp] theorem apY(i:Nat)(vs:List AV):UD i (.tup vs)=some (.of vs[i]?):=rfl
section
variable (T:cX) (t:Nat) (dd:TypeDesc) (k:IntKind) (a b:Int)
def aq4(op:BinOp)(x y:AV):Option TypeDesc→Option O
 |some d=>some (dF d op x y)
 |none=>none
@[simp] theorem aiR(op:BinOp)(x y:AV)(dd:TypeDesc):aq4 op x y (some dd)=some (dF dd op x y):=rfl
@[simp] theorem azD(op:BinOp)(x y:PV):Mc T op t (.p x) (.p y)=aq4 op (.p x) (.p y) (descOf T t):=by
  simp only[Mc];cases descOf T t<;>rfl
def dJ(T:cX)(op:BinOp)(a b:List AV):Option TypeDesc→Option O
 |some (.struct fs)=>match op with
  | .eql=>some (.of ((cg T 0 fs.toList a b).map fun r=>.p (.bool r)))
  | .neq=>some (.of ((cg T 0 fs.toList a b).map fun r=>.p (.bool !r)))
  |_=>none
 |_=>none
@[simp] theorem aq1(op:BinOp)(x y:List AV):Mc T op t (.agg x) (.agg y)=dJ T op x y (descOf T t):=by
  simp only[Mc,dJ]
  cases descOf T t with
  |none=>rfl
  |some d=>cases d<;>cases op<;>rfl
@[simp] theorem aq3(x y:List AV)(fs:Array Field):dJ T .eql x y (some (.struct fs))=some (.of ((cg T 0 fs.toList x y).map fun r=>.p (.bool r))):=rfl
@[simp] theorem aq2(x y:List AV)(fs:Array Field):dJ T .neq x y (some (.struct fs))=some (.of ((cg T 0 fs.toList x y).map fun r=>.p (.bool !r))):=rfl
@[simp] theorem aql(n:Nat):cg T n [] [] []=some true:=rfl
@[simp] theorem aip(n:Nat)(f:Field)(r:List Field)(x y:AV)(xs ys:List AV):cg T n (f::r) (x::xs) (y::ys)=if f.name≠ "_" ∧f.offset=n then(Sk (descOf T f.type) x y).bind fun b=>(cg T (n+1) r xs ys).map fun c=>b&&c else none:=rfl
@[simp] theorem aqm(a b:Bool):Sk (some .bool) (.p (.bool a)) (.p (.bool b))=some (a==b):=rfl
@[simp] theorem aq0:dF dd .add (.p (.int k a)) (.p (.int k b))=⟨.p (.int k (k.wrap (a+b))),true⟩:=by simp[dF,dN]
@[simp] theorem aqN:dF dd .sub (.p (.int k a)) (.p (.int k b))=⟨.p (.int k (k.wrap (a-b))),true⟩:=by simp[dF,dN]
@[simp] theorem aqT:dF dd .mul (.p (.int k a)) (.p (.int k b))=⟨.p (.int k (k.wrap (a*b))),true⟩:=by simp[dF,dN]
@[simp] theorem aqR:dF dd .quo (.p (.int k a)) (.p (.int k b))=⟨.p (.int k (k.wrap (a.tdiv b))),decide (b≠0)⟩:=by simp[dF,dN]
@[simp] theorem aqQ:dF dd .rem (.p (.int k a)) (.p (.int k b))=⟨.p (.int k (a.tmod b)),decide (b≠0)⟩:=by simp[dF,dN]
@[simp] theorem aqY:dF dd .eql (.p (.int k a)) (.p (.int k b))=⟨.p (.bool (decide (a=b))),true⟩:=by simp[dF,dN];rfl
@[simp] theorem aqS:dF dd .neq (.p (.int k a)) (.p (.int k b))=⟨.p (.bool (!decide (a=b))),true⟩:=by simp[dF,dN,bne];rfl
@[simp] theorem aqU:dF dd .lss (.p (.int k a)) (.p (.int k b))=⟨.p (.bool (decide (a<b))),true⟩:=by simp[dF,dN]
@[simp] theorem aqV:dF dd .leq (.p (.int k a)) (.p (.int k b))=⟨.p (.bool (decide (a≤b))),true⟩:=by simp[dF,dN]
@[simp] theorem aqW:dF dd .gtr (.p (.int k a)) (.p (.int k b))=⟨.p (.bool (decide (b<a))),true⟩:=by simp[dF,dN]
@[simp] theorem aqX:dF dd .geq (.p (.int k a)) (.p (.int k b))=⟨.p (.bool (decide (b≤a))),true⟩:=by simp[dF,dN]
@[simp] theorem aiQ(a b:Bool):dF .bool .eql (.p (.bool a)) (.p (.bool b))=⟨.p (.bool (a==b)),true⟩:=rfl
@[simp] theorem aiP(a b:Bool):dF .bool .neq (.p (.bool a)) (.p (.bool b))=⟨.p (.bool !(a==b)),true⟩:=rfl
@[simp] theorem asV(b:Bool):VO .not (.p (.bool b))=⟨.p (.bool !b),true⟩:=rfl
@[simp] theorem asW:VO .neg (.p (.int k a))=⟨.p (.int k (k.wrap (0-a))),true⟩:=rfl
def W8(src dst:Option TypeDesc)(x:AV):O:=match dst,x with
 |some (.int k),.p (.int _ n)=>match src with
  |some (.int _)=>⟨.p (.int k (k.wrap n)),true⟩
  |_=>.bad
 |some .string,.p (.str s)=>match src with
  |some .string=>⟨.p (.str s),true⟩
  |_=>.bad
 |_,_=>.bad
@[simp] theorem aqq(t t':Nat)(x:AV):AY T t t' x=W8 (descOf T t) (descOf T t') x:=rfl
@[simp] theorem ait(k' T3:IntKind):W8 (some (.int k')) (some (.int T3)) (.p (.int k a))=⟨.p (.int T3 (T3.wrap a)),true⟩:=rfl
end
theorem wrap64{a:Int}(h1: -9223372036854775808≤a)(h2:a≤9223372036854775807):IntKind.i64.wrap a=a:=by
 simp only[IntKind.wrap,IntKind.bits,IntKind.signed,Bool.true_and]
 split
 ·rename_i h;simp at h;omega
 ·rename_i h;simp at h;omega
def Mb(j:Option TI)(z:List PV)(ps:List (Nat×AV)):O:=match j with
 |some j=>.of ((oV j.size (z.map .p) ps).map .agg)
 |none=>.bad
@[simp] theorem aiL(j:TI)(z:List PV)(ps:List (Nat×AV)):Mb (some j) z ps=.of ((oV j.size (z.map .p) ps).map .agg):=rfl
@[simp] theorem ah8(sz:Nat)(cs:List AV):oV sz cs []=some cs:=rfl
@[simp] theorem adl(sz j:Nat)(cs:List AV)(v:AV)(r:List (Nat×AV)):oV sz cs ((j,v)::r)=if v.cells.length=sz∧j*sz+sz≤cs.length∧v.cells.all AV.one=true then oV sz (splice cs (j*sz) v.cells) r else none:=rfl
def ji(T:cX)(t:Nat)(i:Option TI)(ps:List (Nat×AV)):O:=match i with
 |some i=>match i.desc with
  | .struct _=>.of ((de T t (i.zero.map .p) ps).map .agg)
  | .array _ e=>Mb (T.info e) i.zero ps
  |_=>.bad
 |none=>.bad
@[simp] theorem aiA(T:cX)(t:Nat)(ps:List (Nat×AV)):kZ T t ps=ji T t (T.info t) ps:=rfl
@[simp] theorem aiK(T:cX)(t:Nat)(fs:Array Field)(a b:Nat)(z:List PV)(ps:List (Nat×AV)):ji T t (some ⟨.struct fs,a,b,z⟩) ps=.of ((de T t (z.map .p) ps).map .agg):=rfl
@[simp] theorem aqJ(T:cX)(t k e:Nat)(a b:Nat)(z:List PV)(ps:List (Nat×AV)):ji T t (some ⟨.array k e,a,b,z⟩) ps=Mb (T.info e) z ps:=rfl
@[simp] theorem ah7(T:cX)(t:Nat)(cs:List AV):de T t cs []=some cs:=rfl
def W1(T:cX)(t:Nat)(cs:List AV)(v:AV)(r:List (Nat×AV)):Option (Nat×TI)→Option (List AV)
 |some (o,i)=>if v.cells.length=i.size∧o+i.size≤cs.length∧v.cells.all AV.one=true then de T t (splice cs o v.cells) r else none
 |none=>none
@[simp] theorem adj(T:cX)(t f:Nat)(cs:List AV)(v:AV)(r:List (Nat×AV)):de T t cs ((f,v)::r)=W1 T t cs v r (abd T t f):=by
  simp only[de];cases abd T t f<;>rfl
@[simp] theorem adk(T:cX)(t o:Nat)(i:TI)(cs:List AV)(v:AV)(r:List (Nat×AV)):W1 T t cs v r (some (o,i))=if v.cells.length=i.size∧o+i.size≤cs.length∧v.cells.all AV.one=true then de T t (splice cs o v.cells) r else none:=rfl
@[simp] theorem agj(cs:List AV)(off:Nat)(vs:List AV):splice cs off vs=cs.take off++vs++cs.drop (off+vs.length):=rfl
def Rh(e:Option TI)(es:List PV)(l r:Int):O:=match e with
 |some e=>⟨.p (.sl ((es.take r.toNat).drop l.toNat)),decide (0≤l∧l≤r∧r≤(es.length:Int))&&decide (l=0∨∀x∈es,x.cells.length=e.size)⟩
 |none=>.bad
def mX(e:Option TI)(id g off len:Nat)(l r:Int):Obj→O
 | .arr g' sz _ es=>match e with
  |some e=>⟨.arr id g (off+l.toNat) (r-l).toNat,decide (0≤l∧l≤r∧(off:Int)+r≤(es.length:Int))&&decide (g=g'∧sz=e.size∧off+len≤es.length)⟩
  |none=>.bad
 |_=>.bad
@[simp] theorem alG(e:TI)(es:List PV)(l r:Int):Rh (some e) es l r=⟨.p (.sl ((es.take r.toNat).drop l.toNat)),decide (0≤l∧l≤r∧r≤(es.length:Int))&&decide (l=0∨∀x∈es,x.cells.length=e.size)⟩:=rfl
@[simp] theorem alH(e:TI)(id g off len g' sz:Nat)(sh:Bool)(es:List PV)(l r:Int):mX (some e) id g off len l r (.arr g' sz sh es)=⟨.arr id g (off+l.toNat) (r-l).toNat,decide (0≤l∧l≤r∧(off:Int)+r≤(es.length:Int))&&decide (g=g'∧sz=e.size∧off+len≤es.length)⟩:=rfl
section
variable (T:cX) (h:Hp) (t id g off len:Nat) (es:List PV) (k k':IntKind) (l r:Int)
@[simp] theorem aaw:eG T h t (.p (.sl es)) (some (.p (.int k l))) (some (.p (.int k' r)))=Rh (elemOf T t) es l r:=rfl
@[simp] theorem aax:eG T h t (.p (.sl es)) (some (.p (.int k l))) none=Rh (elemOf T t) es l es.length:=rfl
@[simp] theorem aay:eG T h t (.p (.sl es)) none (some (.p (.int k r)))=Rh (elemOf T t) es 0 r:=rfl
@[simp] theorem VW:eG T h t (.arr id g off len) (some (.p (.int k l))) (some (.p (.int k' r)))=mX (elemOf T t) id g off len l r (h.at id):=by
  simp only[eG,bnd,AV.lenOf,Option.bind,mX];cases elemOf T t<;>cases h.at id<;>rfl
@[simp] theorem VX:eG T h t (.arr id g off len) (some (.p (.int k l))) none=mX (elemOf T t) id g off len l len (h.at id):=by
  simp only[eG,bnd,AV.lenOf,Option.bind,mX];cases elemOf T t<;>cases h.at id<;>rfl
@[simp] theorem VY:eG T h t (.arr id g off len) none (some (.p (.int k r)))=mX (elemOf T t) id g off len 0 r (h.at id):=by
  simp only[eG,bnd,AV.lenOf,Option.bind,mX];cases elemOf T t<;>cases h.at id<;>rfl
end
@[simp] theorem axD(h:Hp)(l:List PV):rM h (.p (.sl l))=some l:=rfl
@[simp] theorem amq(h:Hp):rM h (.p .nils)=some []:=rfl
def KS(g off len:Nat):Obj→Option (List PV)
 | .arr g' _ _ es=>if g=g'∧off+len≤es.length then some ((es.drop off).take len) else none
 |_=>none
@[simp] theorem BP(h:Hp)(id g off len:Nat):rM h (.arr id g off len)=KS g off len (h.at id):=by simp only[rM,KS];rfl
@[simp] theorem amr(g off len g' sz:Nat)(sh:Bool)(es:List PV):KS g off len (.arr g' sz sh es)=if g=g'∧off+len≤es.length then some ((es.drop off).take len) else none:=rfl
attribute [simp] L9.eq_def oU cf.eq_def
@[simp] theorem anY(e:Option TI)(k k':IntKind)(n m:Int):TP e (.p (.int k n)) (.p (.int k' m))=e.map fun e=>
     ⟨fun id=>.arr id 0 0 n.toNat,fun _=>.arr 0 e.size false (List.replicate n.toNat (cf e)),[],decide (0<e.size∧0≤n∧n≤m∧m≤1099511627776∧e.bytes*m≤1099511627776∧(cf e).cells.length=e.size)⟩:=rfl
attribute [simp] AV.toP
def Bx(h:Hp)(id off:Nat)(v:AV):Obj→Option Hp
 | .box cs=>if off+v.cells.length≤cs.length then some (h.set id (.box (splice cs off v.cells))) else none
 |_=>none
@[simp] theorem aaq(h:Hp)(id off:Nat)(v:AV)(cs:List AV):Bx h id off v (.box cs)=if off+v.cells.length≤cs.length then some (h.set id (.box (splice cs off v.cells))) else none:=rfl
def wO(h:Hp)(id g j off:Nat)(v:AV)(o:Obj):Option Hp:=
 match o,cZ v.cells with
     | .arr g' sz false es,some ps=>if g=g'∧j<es.length then(es[j]?).bind fun x=>(x.setCells off ps).map fun y=>h.set id (.arr g' sz false (es.set j y)) else none
     |_,_=>none
@[simp] theorem aar(h:Hp)(id g j off g' sz:Nat)(v:AV)(es:List PV):wO h id g j off v (.arr g' sz false es)=(cZ v.cells).bind fun ps=>if g=g'∧j<es.length then(es[j]?).bind fun x=>(x.setCells off ps).map fun y=>h.set id (.arr g' sz false (es.set j y)) else none:=by
  simp only[wO];cases cZ v.cells<;>rfl
def By(h:Hp)(i:Option TI)(a v:AV):Option Hp:=match i with
 |none=>none
 |some i=>if v.cells.length=i.size∧v.cells.all AV.one=true then
  match a with
  | .ref id off=>Bx h id off v (h.at id)
  | .elt id g j off=>wO h id g j off v (h.at id)
  |_=>none
 else none
@[simp] theorem agi(T:cX)(h:Hp)(t:Nat)(a v:AV):ni T h t a v=By h (T.info t) a v:=by
  simp only[ni,By]
  cases T.info t with
  |none=>rfl
  |some i=>
   simp only
   split
   ·rename_i hc
    cases a with
    |ref id off=>simp only[Bx];cases h.at id<;>simp[hc.1]
    |elt id g j off=>simp only[wO];rfl
    |_=>rfl
   ·rfl
@[simp] theorem aas(h:Hp)(i:TI)(id off:Nat)(v:AV):By h (some i) (.ref id off) v=if v.cells.length=i.size∧v.cells.all AV.one=true then Bx h id off v (h.at id) else none:=rfl
@[simp] theorem aat(h:Hp)(i:TI)(id g j off:Nat)(v:AV):By h (some i) (.elt id g j off) v=if v.cells.length=i.size∧v.cells.all AV.one=true then wO h id g j off v (h.at id) else none:=rfl
@[simp] theorem S'(k:IntKind)(n:Int)(y:PV):PV.setCells (.int k n) 0 [y]=some y:=rfl
@[simp] theorem R2(b:Bool)(y:PV):PV.setCells (.bool b) 0 [y]=some y:=rfl
@[simp] theorem Ta(cs:List PV)(off:Nat)(vs:List PV):PV.setCells (.agg cs) off vs=if off+vs.length≤cs.length then some (.agg (rV cs off vs)) else none:=rfl
@[simp] theorem aau(cs:List PV)(off:Nat)(vs:List PV):rV cs off vs=cs.take off++vs++cs.drop (off+vs.length):=rfl
@[simp] theorem ai1(x:X)(rd:Hp)(free:Bool)(g:Option Bool)(d:Option Nat)(s:St)(e e':Option TI)(y:AV)(K:Bool):U0 x rd free g d s e e' (.p .nils) y K=xE x g d s (FT e e' (rM rd y)) K:=rfl
@[simp] theorem arj(x:X)(rd:Hp)(free:Bool)(g:Option Bool)(d:Option Nat)(s:St)(e e':Option TI)(id gn off len:Nat)(y:AV)(K:Bool):U0 x rd free g d s e e' (.arr id gn off len) y K=Dn x.nt d free g s (Mf s.hp id gn off len e e' (rM s.hp y)) K:=rfl
@[simp] theorem ai2(e e':TI)(xs:List PV):FT (some e) (some e') (some xs)=some ⟨fun id=>.arr id 0 0 xs.length,fun _=>.arr 0 e.size false xs,[],decide (0<e.size∧xs.length*e.bytes≤1099511627776∧xs.length≤1099511627776∧∀y∈xs,y.cells.length=e.size)⟩:=rfl
def aeU(h:Hp)(id gn off len:Nat)(e:TI)(xs:List PV):Obj→Option (Hp×AV)
 | .arr g' sz sh es=>
     if gn=g'∧0<sz∧sz=e.size∧(len+xs.length)*e.bytes≤1099511627776∧len+xs.length≤1099511627776∧(∀y∈xs,y.cells.length=e.size) then
      if off+len=es.length then(if off=0∧xs.length=0 then some (h,.arr id gn off len) else some (h.set id (.arr (gn+xs.length+(if off=0 then 0 else 1)) sz sh (es.drop off++xs)),.arr id (gn+xs.length+(if off=0 then 0 else 1)) 0 (len+xs.length)))
      else if off+len+xs.length≤es.length∧sh=false then some (h.set id (.arr gn sz sh (es.take (off+len)++xs++es.drop (off+len+xs.length))),.arr id gn off (len+xs.length))
      else none
     else none
 |_=>none
@[simp] theorem ai0(h:Hp)(id gn off len:Nat)(e e':TI)(xs:List PV):Mf h id gn off len (some e) (some e') (some xs)=aeU h id gn off len e xs (h.at id):=by
  simp only[Mf,aeU];cases h.at id<;>rfl
@[simp] theorem ari(h:Hp)(id gn off len:Nat)(e:TI)(xs:List PV)(g' sz:Nat)(sh:Bool)(es:List PV):aeU h id gn off len e xs (.arr g' sz sh es)=
      if gn=g'∧0<sz∧sz=e.size∧(len+xs.length)*e.bytes≤1099511627776∧len+xs.length≤1099511627776∧(∀y∈xs,y.cells.length=e.size) then
       if off+len=es.length then(if off=0∧xs.length=0 then some (h,.arr id gn off len) else some (h.set id (.arr (gn+xs.length+(if off=0 then 0 else 1)) sz sh (es.drop off++xs)),.arr id (gn+xs.length+(if off=0 then 0 else 1)) 0 (len+xs.length)))
       else if off+len+xs.length≤es.length∧sh=false then some (h.set id (.arr gn sz sh (es.take (off+len)++xs++es.drop (off+len+xs.length))),.arr id gn off (len+xs.length))
       else none
      else none:=rfl
@[simp] theorem adZ(rd:Hp)(as:List AV):dS false rd as=as.map (snap rd):=rfl
@[simp] theorem aiD(rd:Hp)(as:List AV):dS true rd as=as:=rfl
@[simp] theorem WC(as:List AV):bO false as=as.flatMap iJ:=rfl
@[simp] theorem acB(as:List AV):bO true as=[]:=rfl
@[simp] theorem axq(h:Hp)(y:PV):snap h (.p y)=.p y:=rfl
@[simp] theorem alC(h:Hp)(cs:List AV):snap h (.agg cs)=.agg (cs.map (lC h)):=rfl
@[simp] theorem as0(h:Hp)(y:PV):lC h (.p y)=.p y:=rfl
@[simp] theorem aly(h:Hp)(a b:Nat):snap h (.ref a b)=.ref a b:=rfl
@[simp] theorem agk(h:Hp)(a b:Nat):lC h (.ref a b)=.ref a b:=rfl
@[simp] theorem asZ(h:Hp)(a:Nat)(l:List AV):snap h (.fn a l)=.fn a l:=rfl
@[simp] theorem asY(h:Hp)(a:Nat):snap h (.yl a)=.yl a:=rfl
@[simp] theorem alz(h:Hp)(a:Nat):snap h (.map a)=.map a:=rfl
def Oj:Option (List PV)→AV
 |some l=>.p (.sl l)
 |none=>.undef
@[simp] theorem aav(l:List PV):Oj (some l)=.p (.sl l):=rfl
@[simp] theorem alB(h:Hp)(id g off len:Nat):snap h (.arr id g off len)=Oj (KS g off len (h.at id)):=by rw[←BP];rfl
@[simp] theorem agl(h:Hp)(id g off len:Nat):lC h (.arr id g off len)=Oj (KS g off len (h.at id)):=by rw[←BP];rfl
@[simp] theorem arh(y:PV):iJ (.p y)=[]:=rfl
@[simp] theorem aeP(a b:Nat):iJ (.ref a b)=[]:=rfl
@[simp] theorem aiY(a:Nat)(l:List AV):iJ (.fn a l)=[]:=rfl
@[simp] theorem aeS(id g off len:Nat):iJ (.arr id g off len)=[id]:=rfl
def tc:AV→List Nat
 | .arr id _ _ _=>[id]
 |_=>[]
@[simp] theorem aeT(cs:List AV):iJ (.agg cs)=cs.flatMap tc:=rfl
@[simp] theorem XM(id g off len:Nat):tc (.arr id g off len)=[id]:=rfl
@[simp] theorem aiZ(y:PV):tc (.p y)=[]:=rfl
@[simp] theorem XK(a b:Nat):tc (.ref a b)=[]:=rfl
@[simp] theorem V3(k:IntKind)(n:Int):cR (.p (.int k n))=true:=rfl
@[simp] theorem Td(b:Bool):cR (.p (.bool b))=true:=rfl
@[simp] theorem V2(b:ByteArray):cR (.p (.str b))=true:=rfl
@[simp] theorem Tc:cR (.p .nils)=true:=rfl
@[simp] theorem aaP(l:List PV):cR (.p (.sl l))=false:=rfl
@[simp] theorem V4(a b c d:Nat):cR (.arr a b c d)=false:=rfl
@[simp] theorem alR(y:PV):scalar (.p y)=cR (.p y):=rfl
@[simp] theorem aaO(cs:List AV):scalar (.agg cs)=cs.all cR:=rfl
@[simp] theorem aaN(a b c d:Nat):scalar (.arr a b c d)=false:=rfl
def BG:AV→Bool
 | .agg cs=>cs.all cR
 |x=>cR x
@[simp] theorem aaM(vs:List AV):scalar (.tup vs)=vs.all BG:=rfl
@[simp] theorem ago(y:PV):BG (.p y)=cR (.p y):=rfl
@[simp] theorem V1(cs:List AV):BG (.agg cs)=cs.all cR:=rfl
attribute [simp] Ko
@[simp] theorem aaK(h:Hp)(i:Nat)(l:List Nat):share h (i::l)=fh (i::l) 0 h:=rfl
attribute [simp] fh
@[simp] theorem ahn(g sz:Nat)(b:Bool)(es:List PV):As (.arr g sz b es)=.arr g sz true es:=rfl
@[simp] theorem acr(g sz:Nat)(b:Bool)(es:List PV):lY (.arr g sz b es)=true:=rfl
@[simp] theorem aaC(k id g off len:Nat):np k (.arr id g off len)=.arr (id+k) g off len:=rfl
@[simp] theorem alK(k:Nat)(y:PV):np k (.p y)=.p y:=rfl
@[simp] theorem aaB(k:Nat)(vs:List AV):np k (.tup vs)=.tup (vs.map (qH k)):=rfl
@[simp] theorem aaD(k:Nat)(vs:List AV):np k (.agg vs)=.agg (vs.map (qI k)):=rfl
@[simp] theorem alL(k:Nat)(y:PV):qH k (.p y)=.p y:=rfl
@[simp] theorem aaH(k id g off len:Nat):qH k (.arr id g off len)=.arr (id+k) g off len:=rfl
@[simp] theorem aaI(k:Nat)(vs:List AV):qH k (.agg vs)=.agg (vs.map (qI k)):=rfl
@[simp] theorem alM(k:Nat)(y:PV):qI k (.p y)=.p y:=rfl
@[simp] theorem aaJ(k id g off len:Nat):qI k (.arr id g off len)=.arr (id+k) g off len:=rfl
@[simp] theorem axh(k:IntKind)(n:Int):PV.up (.int k n)=.p (.int k n):=rfl
@[simp] theorem asT(b:Bool):PV.up (.bool b)=.p (.bool b):=rfl
@[simp] theorem axe(b:ByteArray):PV.up (.str b)=.p (.str b):=rfl
@[simp] theorem aAq(l:List PV):PV.up (.sl l)=.p (.sl l):=rfl
@[simp] theorem asR:PV.up .nils=.p .nils:=rfl
@[simp] theorem axi(cs:List PV):PV.up (.agg cs)=.agg (cs.map .p):=rfl
@[simp] theorem axg(cs:List PV)(o:Nat):PV.up (.ptr cs o)=.p (.ptr cs o):=rfl
@[simp] theorem aAr(f:Nat)(cs:List PV):PV.up (.fn f cs)=.p (.fn f cs):=rfl
@[simp] theorem asS:PV.up .nilf=.p .nilf:=rfl
@[simp] theorem adn(tm:Tm)(g:Nat):aX tm (.global g)=.glob g:=rfl
def T5(cs:Option (List PV))(T:cX)(n:Int):Option TypeDesc→O
 |some (.array len e)=>match cs with
  |some cs=>match T.info e with
   |some i=>⟨.p (.ptr cs (n.toNat*i.size)),decide (0≤n∧n<(len:Int))⟩
   |none=>.bad
  |none=>.bad
 |_=>.bad
@[simp] theorem No(T:cX)(h:Hp)(t g:Nat)(k:IntKind)(n:Int):dm T h t (.glob g) (.p (.int k n))=T5 (T.glob g) T n (descOf T t):=by
  simp only[dm,T5]
  cases descOf T t with
  |none=>rfl
  |some d=>cases d<;>first|rfl|(cases T.glob g<;>rfl)
def jz(T:cX)(id off:Nat)(n:Int):Option TypeDesc→O
 |some (.array len e)=>match T.info e with
  |some i=>⟨.ref id (off+n.toNat*i.size),decide (0≤n∧n<(len:Int))⟩
  |none=>.bad
 |_=>.bad
@[simp] theorem Py(T:cX)(h:Hp)(t id off:Nat)(k:IntKind)(n:Int):dm T h t (.ref id off) (.p (.int k n))=jz T id off n (descOf T t):=by
  simp only[dm,jz]
  cases descOf T t with
  |none=>rfl
  |some d=>cases d<;>rfl
@[simp] theorem aci:isNil .nils=some true:=rfl
@[simp] theorem ahF:isNil .sle=some false:=rfl
@[simp] theorem acj(x:PV)(l:List PV):isNil (.sl (x::l))=some false:=rfl
@[simp] theorem Xq(e:Nat)(op:BinOp)(l:List PV):dF (.slice e) op (.p (.sl l)) (.p .nils)=oz (.slice e) op (.sl l):=rfl
@[simp] theorem Sl(e:Nat)(op:BinOp):dF (.slice e) op (.p .nils) (.p .nils)=oz (.slice e) op .nils:=rfl
@[simp] theorem UU(e:Nat)(op:BinOp):dF (.slice e) op (.p .sle) (.p .nils)=oz (.slice e) op .sle:=rfl
@[simp] theorem norm_eq(ks:List Nat)(m:Nat)(s:St):norm ks m s=⟨ks.map fun k=>(k,iA s.hp m (look s.tm k)),(s.hp.take m).map (eS m)⟩:=rfl
@[simp] theorem azr(m:Nat)(y:PV):uB m (some (.p y))=.p y:=rfl
@[simp] theorem ah4(m:Nat):uB m none=.undef:=rfl
@[simp] theorem apV(m:Nat)(cs:List AV):uB m (some (.agg cs))=if cs.all (db m)=true then .agg cs else .undef:=rfl
@[simp] theorem auM(m f:Nat)(cs:List AV):uB m (some (.fn f cs))=if cs.all (db m)=true then .fn f cs else .undef:=rfl
@[simp] theorem aub(h:Hp)(m:Nat)(y:PV):iA h m (.p y)=.p y:=rfl
@[simp] theorem Wu(h:Hp)(m:Nat):iA h m .undef=.undef:=rfl
@[simp] theorem ahy(h:Hp)(m a b:Nat):iA h m (.ref a b)=if a<m then .ref a b else uB m (freeze h m 5 (.ref a b)):=by simp[iA,below,cA,db]
@[simp] theorem ahA(h:Hp)(m a b c d:Nat):iA h m (.arr a b c d)=if a<m then .arr a b c d else uB m (freeze h m 5 (.arr a b c d)):=by simp[iA,below,cA,db]
@[simp] theorem ahz(h:Hp)(m a:Nat):iA h m (.map a)=if a<m then .map a else uB m (freeze h m 5 (.map a)):=by simp[iA,below,cA,db]
@[simp] theorem aom(h:Hp)(m a:Nat):iA h m (.it a)=if a<m then .it a else .undef:=by simp[iA,below,cA,db,freeze,uB]
@[simp] theorem aol(h:Hp)(m a:Nat):iA h m (.yl a)=if a<m then .yl a else .undef:=by simp[iA,below,cA,db,freeze,uB]
@[simp] theorem ahB(h:Hp)(m:Nat)(cs:List AV):iA h m (.agg cs)=if cs.all (db m)=true then .agg cs else uB m (freeze h m 5 (.agg cs)):=rfl
@[simp] theorem aon(h:Hp)(m f:Nat)(cs:List AV):iA h m (.fn f cs)=if cs.all (db m)=true then .fn f cs else uB m (freeze h m 5 (.fn f cs)):=rfl
@[simp] theorem aq7(m:Nat)(y:PV):db m (.p y)=true:=rfl
@[simp] theorem aez(m a b:Nat):db m (.ref a b)=decide (a<m):=rfl
@[simp] theorem aeB(m a b c d:Nat):db m (.arr a b c d)=decide (a<m):=rfl
@[simp] theorem aeA(m a:Nat):db m (.map a)=decide (a<m):=rfl
@[simp] theorem aiU(m a:Nat):db m (.yl a)=decide (a<m):=rfl
@[simp] theorem aq5(m:Nat)(y:PV):cA m (.p y)=true:=rfl
@[simp] theorem aev(m a b:Nat):cA m (.ref a b)=decide (a<m):=rfl
@[simp] theorem aex(m a b c d:Nat):cA m (.arr a b c d)=decide (a<m):=rfl
@[simp] theorem aew(m a:Nat):cA m (.map a)=decide (a<m):=rfl
@[simp] theorem aiS(m a:Nat):cA m (.yl a)=decide (a<m):=rfl
@[simp] theorem aey(m:Nat)(cs:List AV):cA m (.agg cs)=cs.all (db m):=rfl
@[simp] theorem aiT(m f:Nat)(cs:List AV):cA m (.fn f cs)=cs.all (db m):=rfl
@[simp] theorem an9(m:Nat)(cs:List AV):eS m (.box cs)=if cs.all (cA m)=true then .box cs else .dead:=rfl
@[simp] theorem aoa(m g sz:Nat)(b:Bool)(es:List PV):eS m (.arr g sz b es)=.arr g sz b es:=rfl
@[simp] theorem an8(m:Nat)(es:List (PV×PV)):eS m (.map es)=.map es:=rfl
@[simp] theorem ahq(m f h_:Nat)(st:LS)(tm:Tm):eS m (.loop st f h_ tm)=.loop st f h_ tm:=rfl
@[simp] theorem ahr(m:Nat):eS m .dead=.dead:=rfl
def aaU(h:Hp)(m:Nat)(vs:Option (List AV)):Option (AV×Hp):=match vs with
 |some vs=>if vs.all (cA m)=true∧m≤h.length then some (xp vs,(h.take m).map (eS m)) else none
 |none=>none
def KG(x:X)(h:Hp)(m:Nat)(vs:Option (List AV)):Option (AV×Hp):=match vs with
 |some vs=>if (!x.T.fresh x.f||vs.all (jO h m))=true then
   if x.T.gives x.f=true then(if m≤h.length∧x.T.fresh x.f=false then some (xp vs,h) else none)
   else aaU h m (j_ (freeze h m 5) vs) else none
 |none=>none
def Qm(x:X)(m:Nat)(rs:List ResultVar)(r:Option (Ex×St)):Option (AV×Hp):=match r with
 |some (.nor,s)=>KG x s.hp m (outs x.T s.hp s.tm rs)
 |some (.ret,s)=>KG x s.hp m (outs x.T s.hp s.tm rs)
 |_=>none
@[simp] theorem aqo(x:X)(m:Nat)(rs:List ResultVar)(s:St):Qm x m rs (some (.nor,s))=KG x s.hp m (outs x.T s.hp s.tm rs):=rfl
@[simp] theorem aqn(x:X)(m:Nat)(rs:List ResultVar)(s:St):Qm x m rs (some (.ret,s))=KG x s.hp m (outs x.T s.hp s.tm rs):=rfl
@[simp] theorem KF(x:X)(h:Hp)(m:Nat)(vs:List AV):KG x h m (some vs)=if (!x.T.fresh x.f||vs.all (jO h m))=true then
    if x.T.gives x.f=true then(if m≤h.length∧x.T.fresh x.f=false then some (xp vs,h) else none)
    else aaU h m (j_ (freeze h m 5) vs) else none:=rfl
@[simp] theorem agw(h:Hp)(m:Nat)(vs:List AV):aaU h m (some vs)=if vs.all (cA m)=true∧m≤h.length then some (xp vs,(h.take m).map (eS m)) else none:=rfl
def A0(a:Option AV)(l:Option (List AV)):Option (List AV):=match a,l with
 |some a,some l=>some (a::l)
 |_,_=>none
@[simp] theorem adz(a:AV)(l:List AV):A0 (some a) (some l)=some (a::l):=rfl
@[simp] theorem an6(f:AV→Option AV):j_ f []=some []:=rfl
@[simp] theorem ahp(f:AV→Option AV)(a:AV)(r:List AV):j_ f (a::r)=A0 (f a) (j_ f r):=by
  simp only[j_,A0];cases f a<;>cases j_ f r<;>rfl
@[simp] theorem apW(h:Hp)(m n:Nat)(y:PV):freeze h m (n+1) (.p y)=some (.p y):=rfl
@[simp] theorem adg(h:Hp)(m n id g off len:Nat):freeze h m (n+1) (.arr id g off len)=if id<m then some (.arr id g off len) else(KS g off len (h.at id)).map fun l=>.p (.sl l):=by rw[←BP];rfl
@[simp] theorem adh(h:Hp)(m n:Nat)(cs:List AV):freeze h m (n+1) (.agg cs)=(j_ (freeze h m n) cs).map .agg:=by
  simp only[freeze];cases j_ (freeze h m n) cs<;>rfl
@[simp] theorem ade(h:Hp)(m n id off:Nat):freeze h m (n+1) (.ref id off)=if id<m then some (.ref id off) else(FI off (h.at id)).bind fun c=>(j_ (freeze h m n) c.1).bind fun l=>(cZ l).map fun ps=>.p (.ptr ps off):=by
  simp only[freeze,FI]
  split
  ·rfl
  ·cases h.at id with
   |box cs=>simp only[Option.bind];cases j_ (freeze h m n) cs<;>rfl
   |_=>rfl
@[simp] theorem azw(x:PV):uL (.p x)=some x:=rfl
@[simp] theorem aqu(cs:List AV):uL (.agg cs)=(cZ cs).map .agg:=rfl
@[simp] theorem aqs(id o:Nat):uL (.ref id o)=none:=rfl
@[simp] theorem aqt(a b c d:Nat):uL (.arr a b c d)=none:=rfl
@[simp] theorem aiv:iF []=some []:=rfl
@[simp] theorem adH(x:AV)(r:List AV):iF (x::r)=(uL x).bind fun y=>(iF r).map (y::·):=rfl
def ac7(f:Nat)(l:List AV):Option AV:=match iF l with
  |some ps=>some (.p (.fn f ps))
  |none=>some (.fn f l)
@[simp] theorem ah6(h:Hp)(m n f:Nat)(cs:List AV):freeze h m (n+1) (.fn f cs)=(j_ (freeze h m n) cs).bind (ac7 f):=by
  simp only[freeze];cases j_ (freeze h m n) cs<;>rfl
@[simp] theorem adf(h:Hp)(m n id:Nat):freeze h m (n+1) (.map id)=if id<m then some (.map id) else none:=rfl
@[simp] theorem anz(T:cX)(h:Hp)(tm:Tm):outs T h tm []=some []:=rfl
@[simp] theorem anx(T:cX)(h:Hp)(tm:Tm)(t:Nat)(r:List ResultVar):outs T h tm (.tmp t::r)=A0 (some (look tm t)) (outs T h tm r):=by
  simp only[outs];cases outs T h tm r<;>rfl
def adF(a:O)(l:Option (List AV)):Option (List AV):=if a.ok=true then A0 (some a.v) l else none
@[simp] theorem au5(a:O)(l:Option (List AV)):adF a l=if a.ok=true then A0 (some a.v) l else none:=rfl
@[simp] theorem ahg(T:cX)(h:Hp)(tm:Tm)(a t:Nat)(r:List ResultVar):outs T h tm (.cell a t::r)=adF (ql T h t (look tm a)) (outs T h tm r):=by
  simp only[outs,adF];split
  ·cases outs T h tm r<;>rfl
  ·rfl
@[simp] theorem anN(v:AV):xp [v]=v:=rfl
@[simp] theorem anM(v w:AV)(r:List AV):xp (v::w::r)=.tup (v::w::r):=rfl
@[simp] theorem ahk:xp []=.tup []:=rfl
@[simp] theorem ac9(h:Hp)(m:Nat)(k:IntKind)(n:Int):jO h m (.p (.int k n))=true:=rfl
@[simp] theorem WZ(h:Hp)(m:Nat)(b:Bool):jO h m (.p (.bool b))=true:=rfl
@[simp] theorem WY(h:Hp)(m:Nat):jO h m (.p .nils)=true:=rfl
def H7(m id:Nat):Obj→Bool
 | .arr _ _ _ es=>decide (m≤id)&&es.all fun y=>y.cells.all j7
 |_=>false
@[simp] theorem ada(h:Hp)(m id g off len:Nat):jO h m (.arr id g off len)=H7 m id (h.at id):=by
  simp only[jO,cR,Bool.false_or,H7];cases h.at id<;>simp
@[simp] theorem adb(m id g sz:Nat)(b:Bool)(es:List PV):H7 m id (.arr g sz b es)=(decide (m≤id)&&es.all fun y=>y.cells.all j7):=rfl
@[simp] theorem V0(k:IntKind)(n:Int):j7 (.int k n)=true:=rfl
@[simp] theorem Tb(b:Bool):j7 (.bool b)=true:=rfl
@[simp] theorem VZ(b:ByteArray):j7 (.str b)=true:=rfl
theorem sW{T:cX}{call:ei}{yield:nN}{fuel f:Nat}{fn:Func}{args:List AV}{h:Hp}{c:Code}{nt:Nat}{rs:List ResultVar}(hc:fn.body=some c)(hn:fn.ntmps=nt)(hr:fn.results.toList=rs)(ha:args.length≤nt):
  enter T call yield fuel f fn args h=Qm ⟨T,call,yield,f,nt,fuel,false⟩ h.length rs (ia ⟨T,call,yield,f,nt,fuel,false⟩ c 0 ⟨fK args 0,h⟩):=by
 subst hn;subst hr
 simp only[enter,hc,if_pos ha]
 have key:∀s:St,Hl ⟨T,call,yield,f,fn.ntmps,fuel,false⟩ h.length fn s=KG ⟨T,call,yield,f,fn.ntmps,fuel,false⟩ s.hp h.length (outs T s.hp s.tm fn.results.toList):=by
  intro s
  simp only[Hl]
  cases outs T s.hp s.tm fn.results.toList with
  |none=>rfl
  |some vs=>
   simp only[aN,KF]
   cases hf:(!T.fresh f||vs.all (jO s.hp h.length))
   ·simp[mO,b7]
   ·simp only[mN,aN,if_true]
    split
    ·rfl
    ·cases j_ (freeze s.hp h.length 5) vs<;>rfl
 match ia ⟨T,call,yield,f,fn.ntmps,fuel,false⟩ c 0 ⟨fK args 0,h⟩ with
 |none=>rfl
 |some (.nor,s)=>exact key s
 |some (.ret,s)=>exact key s
 |some (.exit _,s)=>rfl
end Go.En
namespace Go.En
theorem HP{body:St→Option (Ex×St)}{ks:List Nat}{m:Nat}(N:Nat)(S:Nat→St)(P:Nat→Option (Ex×St)→Prop)
  (iU:∀k,k≤N→∀K:St→Option (Ex×St),(k<N→P (k+1) (K (S (k+1))))→P k (fq ks m (body (S k)) K)):
  ∀fuel k,k≤N→N-k<fuel→P k (AD body ks m fuel (S k)):=by
 intro fuel
 induction fuel with
 |zero=>intro k _ h;omega
 |succ f ih=>
  intro k hk hf
  simp only[AD]
  rw[DI]
  exact iU k hk _ fun bW=>ih (k+1) bW (by omega)
theorem Lo(N:Nat)(S:Nat→St)(P:Nat→Option (Ex×St)→Prop){body:St→Option (Ex×St)}{ks:List Nat}{m fuel:Nat}{s:St}{r:Option (Ex×St)}
  (hr:iter body ks m fuel s=r)(hN:N<fuel)(hs:norm ks m s=S 0)
  (iU:∀k,k≤N→∀K:St→Option (Ex×St),(k<N→P (k+1) (K (S (k+1))))→P k (fq ks m (body (S k)) K)):
  P 0 r:=by
 rw[←hr,iter_eq,hs]
 exact HP N S P iU fuel 0 (Nat.zero_le _) (by omega)
def apR:Option O→AV
 |some r=>r.v
 |none=>.undef
@[simp] theorem ah1(r:O):apR (some r)=r.v:=rfl
@[simp] theorem ark(nt:Nat)(d:Option Nat)(s:St)(r:Option O)(K:Bool):p' nt d (some false) s r K=if cF nt d=true then some ⟨bJ s.tm d (.gd false (apR r)),s.hp⟩ else none:=by
  cases r with
  |none=>simp only[p',CQ];cases cF nt d<;>rfl
  |some r=>simp[p']
@[simp] theorem asP(nt:Nat)(d:Option Nat)(free:Bool)(s:St)(r:Option (Hp×AV))(K:Bool):Dn nt d free (some false) s r K=if cF nt d=true then some ⟨bJ s.tm d (.gd false .undef),s.hp⟩ else none:=by
  simp only[Dn];cases cF nt d<;>rfl
@[simp] theorem avY(nt:Nat)(d:Option Nat)(s:St)(r:Option (Hp×AV))(K:Bool):Dn nt d false (some true) s r K=if cF nt d=true∧K=true then aQ r (fun r=>some ⟨bJ s.tm d (.gd true r.2),r.1⟩) else none:=by
  simp only[Dn];cases cF nt d<;>cases K<;>rfl
@[simp] theorem SR{α β:Type}(f:α→β)(l:List α):(l.map f).take l.length=l.map f:=by rw[List.take_of_length_le (by simp)]
end Go.En
namespace Go.En
attribute [simp] aN b7
theorem HE{α β:Type}(a:Option α)(f:α→Option β):aQ a f=a.bind f:=by cases a<;>rfl
section
variable (l:List PV) (r:List AV)
@[simp] theorem alv:cZ (l.map AV.p)=some l:=by
  induction l with
  |nil=>rfl
  |cons x l ih=>simp[ih]
@[simp] theorem VR:cZ (l.map AV.p++r)=(cZ r).map (l++·):=by
  induction l with
  |nil=>simp
  |cons x l ih=>simp[ih,Function.comp_def]
@[simp] theorem aAw(h:Hp):(l.map AV.p).map (lC h)=l.map AV.p:=by
  rw[List.map_map];rfl
@[simp] theorem aAx(h:Hp):lC h∘AV.p=AV.p:=rfl
@[simp] theorem XL:(l.map AV.p).flatMap tc=[]:=by
  induction l with
  |nil=>rfl
  |cons x l ih=>simp[ih]
theorem Fb{α β γ:Type}{g:α→β}{f:β→List γ}(h:∀x,f (g x)=[])(l:List α):(l.map g).flatMap f=[]:=by
 induction l with
 |nil=>rfl
 |cons x l ih=>simp[h,ih]
@[simp] theorem ax5(x:PV):vL (.p x)=[]:=rfl
@[simp] theorem aoH(a b:Nat):vL (.ref a b)=[a]:=rfl
@[simp] theorem aoK(a b c d:Nat):vL (.arr a b c d)=[a]:=rfl
@[simp] theorem aoJ(a b c d:Nat):vL (.elt a b c d)=[a]:=rfl
@[simp] theorem aoI(a:Nat):vL (.map a)=[a]:=rfl
@[simp] theorem PD(x:PV):rj (.p x)=[]:=rfl
@[simp] theorem aoD(a b:Nat):rj (.ref a b)=[a]:=rfl
@[simp] theorem aoG(a b c d:Nat):rj (.arr a b c d)=[a]:=rfl
@[simp] theorem aoF(a b c d:Nat):rj (.elt a b c d)=[a]:=rfl
@[simp] theorem aoE(a:Nat):rj (.map a)=[a]:=rfl
@[simp] theorem PE(cs:List AV):rj (.agg cs)=cs.flatMap vL:=rfl
@[simp] theorem T6(f:Nat)(cs:List AV):rj (.fn f cs)=cs.flatMap vL:=rfl
@[simp] theorem Lr:(l.map AV.p).flatMap vL=[]:=Fb (fun _=>rfl) l
@[simp] theorem ahK:(l.map AV.p).flatMap rj=[]:=Fb (fun _=>rfl) l
@[simp] theorem aoB(cs:List AV):EB (.box cs)=cs.flatMap rj:=rfl
@[simp] theorem aoC(g sz:Nat)(sh:Bool)(es:List PV):EB (.arr g sz sh es)=[]:=rfl
@[simp] theorem aoA(es:List (PV×PV)):EB (.map es)=[]:=rfl
@[simp] theorem ahJ:EB .dead=[]:=rfl
section
variable (π:Nat→Option Nat)
@[simp] theorem axB(x:PV):jw π (.p x)=some (.p x):=rfl
@[simp] theorem agy(g:Nat):jw π (.glob g)=some (.glob g):=rfl
@[simp] theorem aaX:jw π .undef=some .undef:=rfl
@[simp] theorem al8(id off:Nat):jw π (.ref id off)=(π id).map fun j=>.ref j off:=rfl
@[simp] theorem amb(id g off len:Nat):jw π (.arr id g off len)=(π id).map fun j=>.arr j g off len:=rfl
@[simp] theorem ama(id g i off:Nat):jw π (.elt id g i off)=(π id).map fun j=>.elt j g i off:=rfl
@[simp] theorem al9(id:Nat):jw π (.map id)=(π id).map fun j=>.map j:=rfl
@[simp] theorem axA(x:PV):ir π (.p x)=some (.p x):=rfl
@[simp] theorem al3(id off:Nat):ir π (.ref id off)=(π id).map fun j=>.ref j off:=rfl
@[simp] theorem al6(id g off len:Nat):ir π (.arr id g off len)=(π id).map fun j=>.arr j g off len:=rfl
@[simp] theorem al4(id:Nat):ir π (.map id)=(π id).map fun j=>.map j:=rfl
@[simp] theorem al5(id g i off:Nat):ir π (.elt id g i off)=(π id).map fun j=>.elt j g i off:=rfl
@[simp] theorem aaW:ir π .undef=some .undef:=rfl
@[simp] theorem al7(cs:List AV):ir π (.agg cs)=(eH (jw π) cs).map .agg:=rfl
@[simp] theorem as3(f:Nat)(cs:List AV):ir π (.fn f cs)=(eH (jw π) cs).map (.fn f):=rfl
@[simp] theorem aaV(x:PV):tU π (.p x)=some (.p x):=rfl
@[simp] theorem alW(id off:Nat):tU π (.ref id off)=(π id).map fun j=>.ref j off:=rfl
@[simp] theorem alY(id g off len:Nat):tU π (.arr id g off len)=(π id).map fun j=>.arr j g off len:=rfl
@[simp] theorem alX(id:Nat):tU π (.map id)=(π id).map fun j=>.map j:=rfl
@[simp] theorem alZ(cs:List AV):tU π (.agg cs)=(eH (jw π) cs).map .agg:=rfl
@[simp] theorem alV(cs:List AV):tU π (.tup cs)=(eH (ir π) cs).map .tup:=rfl
@[simp] theorem al1(cs:List AV):iq π (.box cs)=(eH (ir π) cs).map .box:=rfl
@[simp] theorem al2(g sz:Nat)(sh:Bool)(es:List PV):iq π (.arr g sz sh es)=some (.arr g sz sh es):=rfl
@[simp] theorem al0(es:List (PV×PV)):iq π (.map es)=some (.map es):=rfl
@[simp] theorem agx:iq π .dead=some .dead:=rfl
end
@[simp] theorem an5{α β:Type}(f:α→Option β):eH f []=some []:=rfl
@[simp] theorem aho{α β:Type}(f:α→Option β)(x:α)(r:List α):eH f (x::r)=(f x).bind fun y=>(eH f r).map (y::·):=by
  simp only[eH,HE];cases f x<;>simp;cases eH f r<;>rfl
theorem Jp{f:AV→Option AV}(h:∀x,f (.p x)=some (.p x))(l:List PV):eH f (l.map AV.p)=some (l.map AV.p):=by
 induction l with
 |nil=>rfl
 |cons x l ih=>simp[h,ih]
@[simp] theorem aAE(π:Nat→Option Nat):eH (jw π) (l.map AV.p)=some (l.map AV.p):=Jp (f:=jw π) (fun _=>rfl) l
@[simp] theorem aAD(π:Nat→Option Nat):eH (ir π) (l.map AV.p)=some (l.map AV.p):=Jp (f:=ir π) (fun _=>rfl) l
@[simp] theorem an7(h:Hp)(m n:Nat):j_ (freeze h m (n+1)) (l.map AV.p)=some (l.map AV.p):=by
  induction l with
  |nil=>rfl
  |cons x l ih=>simp[ih]
@[simp] theorem Md(m:Nat):(l.map AV.p).all (cA m)=true:=by simp[cA,db]
@[simp] theorem aq8(m:Nat):db m∘AV.p=fun _=>true:=rfl
@[simp] theorem aq6(m:Nat):cA m∘AV.p=fun _=>true:=rfl
@[simp] theorem TS(m:Nat):eS m (.box (l.map AV.p))=.box (l.map AV.p):=by
  simp only[eS,Md,if_true]
end
@[simp] theorem Iz(W:List Nat):jS W []=W:=rfl
@[simp] theorem FX(W:List Nat)(x:Nat)(r:List Nat):jS W (x::r)=if W.contains x=true then jS W r else jS (W++[x]) r:=rfl
def JJ(h:Hp)(n k:Nat)(W:List Nat):Option Nat→List Nat
 |none=>W
 |some id=>ke h n (k+1) (jS W (EB (h.at id)))
@[simp] theorem ac4(h:Hp)(n k:Nat)(W:List Nat):JJ h n k W none=W:=rfl
@[simp] theorem H5(h:Hp)(n k:Nat)(W:List Nat)(id:Nat):JJ h n k W (some id)=ke h n (k+1) (jS W (EB (h.at id))):=rfl
@[simp] theorem Uz(h:Hp)(k:Nat)(W:List Nat):ke h 0 k W=W:=rfl
@[simp] theorem Ct(h:Hp)(n k:Nat)(W:List Nat):ke h (n+1) k W=JJ h n k W W[k]? :=by
  simp only[ke,JJ];cases W[k]? <;>rfl
@[simp] theorem xg(h:Hp)(as:List AV):reach h as=ke h (h.length+1) 0 (jS [] (as.flatMap rj)):=rfl
@[simp] theorem aui(i:Nat):idx [] i=none:=rfl
@[simp] theorem PC(x i:Nat)(r:List Nat):idx (x::r) i=if x=i then some 0 else(idx r i).map (·+1):=rfl
def JX(W:List Nat)(n j:Nat):Option Nat→Option Nat
 |some id=>some id
 |none=>some (n+(j-W.length))
@[simp] theorem aeC(W:List Nat)(n j id:Nat):JX W n j (some id)=some id:=rfl
@[simp] theorem aeD(W:List Nat)(n j:Nat):JX W n j none=some (n+(j-W.length)):=rfl
@[simp] theorem back_eq(W:List Nat)(n j:Nat):back W n j=JX W n j W[j]? :=by
  simp only[back,JX];cases W[j]? <;>rfl
@[simp] theorem amk(h:Hp)(os:List Obj):eY h [] os=h:=by cases os<;>rfl
@[simp] theorem KP(h:Hp)(id:Nat)(W:List Nat)(o:Obj)(os:List Obj):eY h (id::W) (o::os)=eY (h.set id o) W os:=rfl
@[simp] theorem ae7(cs:List AV):gU (.box cs)=true:=rfl
@[simp] theorem ae8(g sz:Nat)(sh:Bool)(es:List PV):gU (.arr g sz sh es)=true:=rfl
@[simp] theorem ae6(es:List (PV×PV)):gU (.map es)=true:=rfl
def SV(call:ei)(f:Nat):Option (List AV)→Option Hp→Option (AV×Hp)
 |some as,some h=>call f as h
 |_,_=>none
@[simp] theorem Kk(call:ei)(f:Nat)(as:List AV)(h:Hp):SV call f (some as) (some h)=call f as h:=rfl
def aap(W:List Nat)(h:Hp):Option AV→Option Hp→Option (AV×Hp)
 |some v,some h2=>some (v,eY h W h2++h2.drop W.length)
 |_,_=>none
@[simp] theorem Kj(W:List Nat)(h:Hp)(v:AV)(h2:Hp):aap W h (some v) (some h2)=some (v,eY h W h2++h2.drop W.length):=rfl
def Od(W:List Nat)(h:Hp):Option (AV×Hp)→Option (AV×Hp)
 |some (v,h2)=>if (W.length≤h2.length∧W.length≤h.length)∧(h2.take W.length).all gU=true then aap W h (tU (back W h.length) v) (eH (iq (back W h.length)) h2) else none
 |none=>none
@[simp] theorem Ki(W:List Nat)(h:Hp)(v:AV)(h2:Hp):Od W h (some (v,h2))=if (W.length≤h2.length∧W.length≤h.length)∧(h2.take W.length).all gU=true then aap W h (tU (back W h.length) v) (eH (iq (back W h.length)) h2) else none:=rfl
@[simp] theorem agh(W:List Nat)(h:Hp):Od W h none=none:=rfl
def SU(call:ei)(f:Nat)(as:List AV)(h:Hp)(W:List Nat):Option (AV×Hp):=
 if (fL W&&W.all fun i=>decide (i<h.length)&&gU (h.at i))=true then
  Od W h (SV call f (eH (ir (idx W)) as) (eH (iq (idx W)) (W.map h.at))) else none
theorem GU(call:ei)(f:Nat)(as:List AV)(h:Hp):cJ call f as h=SU call f as h (reach h as):=by
 unfold cJ SU
 generalize reach h as=W
 simp only[pF]
 split
 ·cases h1:eH (ir (idx W)) as with
  |none=>rfl
  |some UZ=>
   cases h2:eH (iq (idx W)) (W.map h.at) with
   |none=>rfl
   |some h'=>
    simp only[aN,SV]
    cases h3:call f UZ h' with
    |none=>rfl
    |some r=>
     obtain⟨v,h2⟩:=r
     simp only[aN,Od,Bool.and_eq_true,decide_eq_true_eq]
     split
     ·cases tU (back W h.length) v with
      |none=>rfl
      |some v'=>cases eH (iq (back W h.length)) h2<;>rfl
     ·rfl
 ·rfl
@[simp] theorem fI(call:ei)(f:Nat)(as:List AV)(h:Hp):cJ call f as h=SU call f as h (reach h as):=GU call f as h
@[simp] theorem SS(call:ei)(f:Nat)(as:List AV)(h:Hp)(W:List Nat):SU call f as h W=if (fL W&&W.all fun i=>decide (i<h.length)&&gU (h.at i))=true then
   Od W h (SV call f (eH (ir (idx W)) as) (eH (iq (idx W)) (W.map h.at))) else none:=rfl
@[simp] theorem ax3(x:PV):rf (.p x)=false:=rfl
@[simp] theorem aox(l:List AV):rf (.agg l)=false:=rfl
@[simp] theorem aot(a b:Nat):rf (.ref a b)=false:=rfl
@[simp] theorem aow(a b c d:Nat):rf (.arr a b c d)=false:=rfl
@[simp] theorem aov(a b c d:Nat):rf (.elt a b c d)=false:=rfl
@[simp] theorem aou(a:Nat):rf (.map a)=false:=rfl
@[simp] theorem auf(a:Nat):rf (.yl a)=true:=rfl
@[simp] theorem ach(f:Nat):rf (.fn f [])=false:=rfl
@[simp] theorem Ww(f:Nat)(x:AV)(r:List AV):rf (.fn f (x::r))=((match x with| .yl _=>true|_=>false)||rf (.fn f r)):=rfl
def FV(as:List AV):Bool:=as.any rf
@[simp] theorem ai3:FV []=false:=rfl
@[simp] theorem aeX(x:AV)(r:List AV):FV (x::r)=(rf x||FV r):=rfl
@[simp] theorem aqy(call:ei)(f:Nat)(as:List AV)(h:Hp):s6 call f as h=if FV as=true then call f as h else cJ call f as h:=rfl
@[simp high] theorem Xg(x:X)(free:Bool)(d:Option Nat)(s:St)(f:Nat)(v:AV)(rh:Option (AV×Hp)):mR x free none d s f [] (some (v,[])) rh=some ⟨bJ s.tm d v,s.hp⟩:=by
  rw[Im]
  simp[share]
@[simp high] theorem QB(x:X)(free:Bool)(d:Option Nat)(s:St)(f:Nat)(v:AV)(rh:Option (AV×Hp)):mR x free (some true) d s f [] (some (v,[])) rh=some ⟨bJ s.tm d (.gd true v),s.hp⟩:=by
  rw[zI]
  simp[share]
@[simp] theorem aiX(a:Nat):iJ (.yl a)=[]:=rfl
@[simp] theorem aeQ(a:Nat):iJ (.map a)=[]:=rfl
@[simp] theorem aeR(a b c d:Nat):iJ (.elt a b c d)=[]:=rfl
@[simp] theorem alA(h:Hp)(a b c d:Nat):snap h (.elt a b c d)=.elt a b c d:=rfl
def cc(a b:ByteArray):Bool:=a.toList==b.toList
@[simp] theorem Ql(a:ByteArray):cc a a=true:=by simp[cc]
@[simp] theorem aiN(dd:TypeDesc)(a b:ByteArray):dF dd .eql (.p (.str a)) (.p (.str b))=⟨.p (.bool (cc a b)),true⟩:=rfl
@[simp] theorem aiM(dd:TypeDesc)(a b:ByteArray):dF dd .neq (.p (.str a)) (.p (.str b))=⟨.p (.bool !(cc a b)),true⟩:=rfl
@[simp] theorem aiO(dd:TypeDesc)(a b:ByteArray):dF dd .add (.p (.str a)) (.p (.str b))=⟨.p (.str (a++b)),decide (((a.size+b.size:Nat):Int)≤9223372036854775807)⟩:=rfl
@[simp] theorem au2(a b:ByteArray):Sk (some .string) (.p (.str a)) (.p (.str b))=some (cc a b):=rfl
def acz(d:Option TypeDesc)(s:ByteArray)(n:Int):O:=match d with
 |some .string=>⟨.p (.int .u8 (ig s n)),decide (0≤n∧n<(s.size:Int))⟩
 |_=>.bad
@[simp] theorem ahG(s:ByteArray)(n:Int):acz (some .string) s n=⟨.p (.int .u8 (ig s n)),decide (0≤n∧n<(s.size:Int))⟩:=rfl
@[simp] theorem acx(T:cX)(t:Nat)(s:ByteArray)(k:IntKind)(n:Int):ri T t (.p (.str s)) (.p (.int k n))=acz (descOf T t) s n:=by
  simp only[ri,acz];rfl
def mW(d:Option TypeDesc)(s:ByteArray)(l r:Int):O:=match d with
 |some .string=>⟨.p (.str (s.extract l.toNat r.toNat)),decide (0≤l∧l≤r∧r≤(s.size:Int))⟩
 |_=>.bad
@[simp] theorem alF(s:ByteArray)(l r:Int):mW (some .string) s l r=⟨.p (.str (s.extract l.toNat r.toNat)),decide (0≤l∧l≤r∧r≤(s.size:Int))⟩:=rfl
section
variable (T:cX) (h:Hp) (t:Nat) (s:ByteArray) (k k':IntKind) (l r:Int)
@[simp] theorem VT:eG T h t (.p (.str s)) (some (.p (.int k l))) (some (.p (.int k' r)))=mW (descOf T t) s l r:=by simp only[eG,bnd,AV.lenOf,Option.bind,mW];rfl
@[simp] theorem VU:eG T h t (.p (.str s)) (some (.p (.int k l))) none=mW (descOf T t) s l s.size:=by simp only[eG,bnd,AV.lenOf,Option.bind,mW];rfl
@[simp] theorem VV:eG T h t (.p (.str s)) none (some (.p (.int k r)))=mW (descOf T t) s 0 r:=by simp only[eG,bnd,AV.lenOf,Option.bind,mW];rfl
end
def mg(k:IntKind)(a b:Int):Int:=k.wrap ((BitVec.ofInt k.bits a&&&BitVec.ofInt k.bits b).toNat:Int)
def KY(k:IntKind)(a b:Int):Int:=k.wrap ((BitVec.ofInt k.bits a|||BitVec.ofInt k.bits b).toNat:Int)
def SA(k:IntKind)(a b:Int):Int:=k.wrap ((BitVec.ofInt k.bits a^^^BitVec.ofInt k.bits b).toNat:Int)
def kj(k:IntKind)(a b:Int):Int:=k.wrap ((BitVec.ofInt k.bits a&&&~~~ BitVec.ofInt k.bits b).toNat:Int)
def anQ(k:IntKind)(a:Int):Int:=k.wrap ((BitVec.ofInt k.bits (if k.signed then -1 else k.max)^^^BitVec.ofInt k.bits a).toNat:Int)
section
variable (dd:TypeDesc) (k k':IntKind) (a b:Int)
@[simp] theorem aqO:dF dd .shr (.p (.int k a)) (.p (.int k' b))=⟨.p (.int k (a.fdiv (2^(min b.toNat k.bits)))),decide (0≤b)⟩:=rfl
@[simp] theorem aqP:dF dd .shl (.p (.int k a)) (.p (.int k' b))=⟨.p (.int k (k.wrap (a*2^(min b.toNat k.bits)))),decide (0≤b)⟩:=rfl
@[simp] theorem aqZ:dF dd .and (.p (.int k a)) (.p (.int k b))=⟨.p (.int k (mg k a b)),true⟩:=by simp[dF,dN,mg]
@[simp] theorem avl:dF dd .or (.p (.int k a)) (.p (.int k b))=⟨.p (.int k (KY k a b)),true⟩:=by simp[dF,dN,KY]
@[simp] theorem aqM:dF dd .xor (.p (.int k a)) (.p (.int k b))=⟨.p (.int k (SA k a b)),true⟩:=by simp[dF,dN,SA]
@[simp] theorem Xr:dF dd .andNot (.p (.int k a)) (.p (.int k b))=⟨.p (.int k (kj k a b)),true⟩:=by simp[dF,dN,kj]
@[simp] theorem asU:VO .xor (.p (.int k a))=⟨.p (.int k (anQ k a)),true⟩:=rfl
@[simp] theorem aqK:IntKind.bits .u64=64:=rfl
@[simp] theorem aqL:IntKind.bits .i64=64:=rfl
end
@[simp] theorem Xo(x:X)(g:Option Bool)(d:Option Nat)(s:St)(a:Option A)(v:Option O)(K:Bool):L8 x g d s 999999 a v K=p' x.nt d g s v K:=by simp[L8,frozen]
@[simp] theorem aiC(x:X)(g:Option Bool)(d:Option Nat)(s:St)(a:Option A)(v:Option O)(K:Bool):L8 x g d s 0 a v K=xE x g d s a K:=by simp[L8,frozen]
@[simp] theorem aiB(e:TI)(len:Nat)(ps:List (Nat×AV)):L7 (some e) len ps=(oU e.size (List.replicate len (cf e)) ps).map fun es=>
    ⟨.p (.sl es),decide (0<e.size∧len*e.size≤16777216∧(cf e).cells.length=e.size)⟩:=rfl
@[simp] theorem adG:iF []=some []:=rfl
@[simp] theorem Xf(x:AV)(r:List AV):iF (x::r)=(uL x).bind fun y=>(iF r).map (y::·):=rfl
@[simp] theorem au6(x:PV):uL (.p x)=some x:=rfl
def ac8(f:Nat)(l:List AV):Option (List PV)→Option AV
 |some ps=>some (.p (.fn f ps))
 |none=>some (.fn f l)
@[simp] theorem ah5(f:Nat)(l:List AV)(ps:List PV):ac8 f l (some ps)=some (.p (.fn f ps)):=rfl
@[simp] theorem auN(f:Nat)(l:List AV):ac7 f l=ac8 f l (iF l):=by
  unfold ac7 ac8;cases iF l<;>rfl
@[simp] theorem alS(x:X)(id:Nat)(s:St)(K:Bool)(f:Nat)(cs:List PV):Tk x id s K (.p (.fn f cs))=if x.rnd=false∧K=true then OH s s.hp.length (x.call f (dS (x.T.muts f) s.hp (.yl s.hp.length::cs.map PV.up)) (share s.hp (bO (x.T.muts f) (cs.map PV.up))++[.loop .ready x.f id s.tm])) else none:=rfl
end Go.En
namespace Go.En
abbrev i64(n:Int):PV:=.int .i64 n
abbrev ai(n:Int):AV:=.p (.int .i64 n)
abbrev ab(b:Bool):AV:=.p (.bool b)
abbrev ag(l:List PV):AV:=.agg (l.map .p)
abbrev bx(l:List PV):Obj:=.box (l.map .p)
@[reducible] def ints(l:List Int):PV:=.sl (l.map i64)
@[reducible] def JV(l:List Bool):PV:=.sl (l.map PV.bool)
def nth{α:Type}[Inhabited α](l:List α)(n:Int):α:=l.getD n.toNat default
theorem bq{α:Type}[Inhabited α](l:List α)(k:Nat)(h:k<l.length):nth l k=l[k]:=by simp[nth,h]
theorem aR{α:Type}[Inhabited α]{l:List α}{n:Int}(h0:0≤n)(h1:n<(l.length:Int)):∃x,n.toNat<l.length∧(∀h:n.toNat<l.length,l[n.toNat]=x)∧nth l n=x∧x∈l:=
 have h:n.toNat<l.length:=by omega
 ⟨l[n.toNat],h,fun _=>rfl,by simp[nth,h],List.getElem_mem h⟩
theorem ay{α:Type}[Inhabited α]{l:List α}{k:Nat}(h:k<l.length):∃x,(∀h:k<l.length,l[k]=x)∧nth l (k:Int)=x∧x∈l:=
 ⟨l[k],fun _=>rfl,by simp[nth,h],List.getElem_mem h⟩
inductive Tr where
 |mk (kind width bits:Int) (name:ByteArray) (low:Int) (z:Bool) (sub:List Tr)
namespace Tr
def kind:Tr→Int|mk k _ _ _ _ _ _=>k
def width:Tr→Int|mk _ w _ _ _ _ _=>w
def bits:Tr→Int|mk _ _ b _ _ _ _=>b
def name:Tr→ByteArray|mk _ _ _ n _ _ _=>n
def low:Tr→Int|mk _ _ _ _ l _ _=>l
def z:Tr→Bool|mk _ _ _ _ _ z _=>z
def sub:Tr→List Tr|mk _ _ _ _ _ _ s=>s
end Tr
instance:Inhabited Tr:=⟨.mk 0 0 0 ⟨#[]⟩ 0 true []⟩
def fg(z:Bool)(l:List PV):PV:=if z=true∧l=[] then .nils else .sl l
mutual
def aC:Tr→List PV
 | .mk k w b n l z s=>[.int .u8 k,.int .i64 w,.int .u64 b,.str n,.int .i64 l,fg z (TH s)]
def TH:List Tr→List PV
 |[]=>[]
 |x::r=>.agg (aC x)::TH r
end
def aT(x:Tr):PV:=.agg (aC x)
theorem TG(l:List Tr):TH l=l.map aT:=by
 induction l with
 |nil=>rfl
 |cons x r ih=>simp only[TH,ih,List.map_cons,aT]
theorem ae(x:Tr):aC x=[.int .u8 x.kind,.int .i64 x.width,.int .u64 x.bits,.str x.name,.int .i64 x.low,fg x.z (x.sub.map aT)]:=by
 cases x;simp only[aC,TG,Tr.kind,Tr.width,Tr.bits,Tr.name,Tr.low,Tr.z,Tr.sub]
@[simp] theorem aiu(z:Bool)(l:List PV):PV.cells (fg z l)=[fg z l]:=by unfold fg;split<;>rfl
@[simp] theorem at1(z:Bool)(l:List PV):AV.one (.p (fg z l))=true:=by unfold fg;split<;>rfl
@[simp] theorem agm(l:List PV):fg false l=.sl l:=rfl
@[simp] theorem alE:fg true []=.nils:=rfl
@[simp] theorem aof(e:Nat)(z:Bool)(l:List PV):Em (some (.slice e)) (.p (fg z l))=some ⟨.p (.int .i64 l.length),true⟩:=by
  unfold fg;split
  ·rename_i h;simp[h.2]
  ·rfl
@[simp] theorem axf(z:Bool)(l:List PV):PV.up (fg z l)=.p (fg z l):=by unfold fg;split<;>rfl
@[simp] theorem as5(h:Hp)(z:Bool)(l:List PV):rM h (.p (fg z l))=some l:=by
  unfold fg;split
  ·rename_i h;simp[h.2]
  ·rfl
theorem kF(z:Bool)(l:List PV)(h:l≠[]):fg z l=.sl l:=by simp[fg,h]
section
variable (x:Tr)
@[simp] theorem ata:(aC x).length=6:=by simp[ae]
@[simp] theorem as9:(aC x).all (AV.one∘AV.p)=true:=by simp[ae]
@[simp] theorem axJ(h:0<(aC x).length):(aC x)[0]=.int .u8 x.kind:=by simp[ae]
@[simp] theorem axI(h:1<(aC x).length):(aC x)[1]=i64 x.width:=by simp[ae]
@[simp] theorem axH(h:2<(aC x).length):(aC x)[2]=.int .u64 x.bits:=by simp[ae]
@[simp] theorem axG(h:3<(aC x).length):(aC x)[3]=.str x.name:=by simp[ae]
@[simp] theorem axF(h:4<(aC x).length):(aC x)[4]=i64 x.low:=by simp[ae]
@[simp] theorem axE(h:5<(aC x).length):(aC x)[5]=fg x.z (x.sub.map aT):=by simp[ae]
@[simp] theorem amC:((aC x).map AV.p).take 6=(aC x).map AV.p:=by rw[List.take_of_length_le (by simp)]
@[simp] theorem aiy:PV.cells (aT x)=aC x:=rfl
@[simp] theorem azx:PV.up (aT x)=.agg ((aC x).map AV.p):=rfl
end
structure pT where
 name:ByteArray
 width:Int
 of:Int
 low:Int
 deriving Inhabited
def gN(x:pT):List PV:=[.str x.name,i64 x.width,i64 x.of,i64 x.low]
def yN(x:pT):PV:=.agg (gN x)
section
variable (x:pT)
@[simp] theorem amG:(gN x).length=4:=by simp[gN]
@[simp] theorem amF:(gN x).all (AV.one∘AV.p)=true:=by simp[gN]
@[simp] theorem ati(h:0<(gN x).length):(gN x)[0]=.str x.name:=by simp[gN,List.getElem_append]
@[simp] theorem ath(h:1<(gN x).length):(gN x)[1]=i64 x.width:=by simp[gN,List.getElem_append]
@[simp] theorem atg(h:2<(gN x).length):(gN x)[2]=i64 x.of:=by simp[gN,List.getElem_append]
@[simp] theorem atf(h:3<(gN x).length):(gN x)[3]=i64 x.low:=by simp[gN,List.getElem_append]
@[simp] theorem agP:((gN x).map AV.p).take 4=(gN x).map AV.p:=by rw[List.take_of_length_le (by simp)]
@[simp] theorem adM:PV.cells (yN x)=gN x:=rfl
@[simp] theorem au9:PV.up (yN x)=.agg ((gN x).map AV.p):=rfl
end
structure qw where
 name:ByteArray
 regs:List Int
 deriving Inhabited
def fJ(x:qw):List PV:=[.str x.name,ints x.regs]
def n4(x:qw):PV:=.agg (fJ x)
section
variable (x:qw)
@[simp] theorem anw:(fJ x).length=2:=by simp[fJ]
@[simp] theorem anv:(fJ x).all (AV.one∘AV.p)=true:=by simp[fJ]
@[simp] theorem atX(h:0<(fJ x).length):(fJ x)[0]=.str x.name:=by simp[fJ,List.getElem_append]
@[simp] theorem atW(h:1<(fJ x).length):(fJ x)[1]=ints x.regs:=by simp[fJ,List.getElem_append]
@[simp] theorem ahd:((fJ x).map AV.p).take 2=(fJ x).map AV.p:=by rw[List.take_of_length_le (by simp)]
@[simp] theorem adX:PV.cells (n4 x)=fJ x:=rfl
@[simp] theorem avk:PV.up (n4 x)=.agg ((fJ x).map AV.p):=rfl
end
structure FY where
 name:ByteArray
 count:Int
 deriving Inhabited
def pV(x:FY):List PV:=[.str x.name,i64 x.count]
def CJ(x:FY):PV:=.agg (pV x)
section
variable (x:FY)
@[simp] theorem amB:(pV x).length=2:=by simp[pV]
@[simp] theorem amA:(pV x).all (AV.one∘AV.p)=true:=by simp[pV]
@[simp] theorem as8(h:0<(pV x).length):(pV x)[0]=.str x.name:=by simp[pV,List.getElem_append]
@[simp] theorem as7(h:1<(pV x).length):(pV x)[1]=i64 x.count:=by simp[pV,List.getElem_append]
@[simp] theorem agN:((pV x).map AV.p).take 2=(pV x).map AV.p:=by rw[List.take_of_length_le (by simp)]
@[simp] theorem adK:PV.cells (CJ x)=pV x:=rfl
@[simp] theorem au7:PV.up (CJ x)=.agg ((pV x).map AV.p):=rfl
end
structure rR where
 pos:Int
 len:Int
 deriving Inhabited
def pW(x:rR):List PV:=[i64 x.pos,i64 x.len]
def vS(x:rR):PV:=.agg (pW x)
section
variable (x:rR)
@[simp] theorem amI:(pW x).length=2:=by simp[pW]
@[simp] theorem amH:(pW x).all (AV.one∘AV.p)=true:=by simp[pW]
@[simp] theorem atk(h:0<(pW x).length):(pW x)[0]=i64 x.pos:=by simp[pW,List.getElem_append]
@[simp] theorem atj(h:1<(pW x).length):(pW x)[1]=i64 x.len:=by simp[pW,List.getElem_append]
@[simp] theorem agQ:((pW x).map AV.p).take 2=(pW x).map AV.p:=by rw[List.take_of_length_le (by simp)]
@[simp] theorem adN:PV.cells (vS x)=pW x:=rfl
@[simp] theorem ava:PV.up (vS x)=.agg ((pW x).map AV.p):=rfl
end
structure n8 where
 name:ByteArray
 kind:Int
 bank:Int
 scale:Int
 pieces:List rR
 tied:Int
 deriving Inhabited
def dI(x:n8):List PV:=[.str x.name,.int .u8 x.kind,i64 x.bank,i64 x.scale,.sl (x.pieces.map vS),i64 x.tied]
def l_(x:n8):PV:=.agg (dI x)
section
variable (x:n8)
@[simp] theorem amT:(dI x).length=6:=by simp[dI]
@[simp] theorem amS:(dI x).all (AV.one∘AV.p)=true:=by simp[dI]
@[simp] theorem atr(h:0<(dI x).length):(dI x)[0]=.str x.name:=by simp[dI,List.getElem_append]
@[simp] theorem atq(h:1<(dI x).length):(dI x)[1]=.int .u8 x.kind:=by simp[dI,List.getElem_append]
@[simp] theorem atp(h:2<(dI x).length):(dI x)[2]=i64 x.bank:=by simp[dI,List.getElem_append]
@[simp] theorem ato(h:3<(dI x).length):(dI x)[3]=i64 x.scale:=by simp[dI,List.getElem_append]
@[simp] theorem atn(h:4<(dI x).length):(dI x)[4]=.sl (x.pieces.map vS):=by simp[dI,List.getElem_append]
@[simp] theorem atm(h:5<(dI x).length):(dI x)[5]=i64 x.tied:=by simp[dI,List.getElem_append]
@[simp] theorem agX:((dI x).map AV.p).take 6=(dI x).map AV.p:=by rw[List.take_of_length_le (by simp)]
@[simp] theorem adO:PV.cells (l_ x)=dI x:=rfl
@[simp] theorem avb:PV.up (l_ x)=.agg ((dI x).map AV.p):=rfl
end
structure jY where
 kind:Int
 op:Int
 reg:Int
 addr:Tr
 val:Tr
 cond:Tr
 deriving Inhabited
def b_(x:jY):List PV:=[.int .u8 x.kind,i64 x.op,i64 x.reg]++(aC x.addr++(aC x.val++(aC x.cond)))
def s8(x:jY):PV:=.agg (b_ x)
section
variable (x:jY)
@[simp] theorem anc:(b_ x).length=21:=by simp[b_]
@[simp] theorem anb:(b_ x).all (AV.one∘AV.p)=true:=by simp[b_]
@[simp] theorem atM(h:0<(b_ x).length):(b_ x)[0]=.int .u8 x.kind:=by simp[b_,List.getElem_append]
@[simp] theorem atK(h:1<(b_ x).length):(b_ x)[1]=i64 x.op:=by simp[b_,List.getElem_append]
@[simp] theorem atJ(h:2<(b_ x).length):(b_ x)[2]=i64 x.reg:=by simp[b_,List.getElem_append]
@[simp] theorem atI(h:4<(b_ x).length):(b_ x)[4]=(aC x.addr)[1]'(by simp):=by simp[b_,List.getElem_append]
@[simp] theorem KU:(((b_ x).map AV.p).drop 3).take 6=(aC x.addr).map AV.p:=by simp[b_,List.drop_append,List.take_append,List.drop_eq_nil_of_le]
@[simp] theorem ang(h:10<(b_ x).length):(b_ x)[10]=(aC x.val)[1]'(by simp):=by simp[b_,List.getElem_append]
@[simp] theorem OY:(((b_ x).map AV.p).drop 9).take 6=(aC x.val).map AV.p:=by simp[b_,List.drop_append,List.take_append,List.drop_eq_nil_of_le]
@[simp] theorem anf(h:15<(b_ x).length):(b_ x)[15]=(aC x.cond)[0]'(by simp):=by simp[b_,List.getElem_append]
@[simp] theorem ane(h:16<(b_ x).length):(b_ x)[16]=(aC x.cond)[1]'(by simp):=by simp[b_,List.getElem_append]
@[simp] theorem ag4:(((b_ x).map AV.p).drop 15).take 6=(aC x.cond).map AV.p:=by simp[b_,List.drop_append,List.take_append,List.drop_eq_nil_of_le]
@[simp] theorem ag2:((b_ x).map AV.p).take 21=(b_ x).map AV.p:=by rw[List.take_of_length_le (by simp)]
@[simp] theorem adS:PV.cells (s8 x)=b_ x:=rfl
@[simp] theorem avf:PV.up (s8 x)=.agg ((b_ x).map AV.p):=rfl
end
structure dh where
 name:ByteArray
 mask:Int
 mat:Int
 opds:List n8
 effs:List jY
 unit:Int
 busy:Int
 latency:Int
 slots:Int
 deriving Inhabited
def aU(x:dh):List PV:=[.str x.name,.int .u64 x.mask,.int .u64 x.mat,.sl (x.opds.map l_),.sl (x.effs.map s8),i64 x.unit,i64 x.busy,i64 x.latency,i64 x.slots]
def s7(x:dh):PV:=.agg (aU x)
section
variable (x:dh)
@[simp] theorem am4:(aU x).length=9:=by simp[aU]
@[simp] theorem am3:(aU x).all (AV.one∘AV.p)=true:=by simp[aU]
@[simp] theorem atC(h:0<(aU x).length):(aU x)[0]=.str x.name:=by simp[aU,List.getElem_append]
@[simp] theorem atB(h:1<(aU x).length):(aU x)[1]=.int .u64 x.mask:=by simp[aU,List.getElem_append]
@[simp] theorem atA(h:2<(aU x).length):(aU x)[2]=.int .u64 x.mat:=by simp[aU,List.getElem_append]
@[simp] theorem atz(h:3<(aU x).length):(aU x)[3]=.sl (x.opds.map l_):=by simp[aU,List.getElem_append]
@[simp] theorem aty(h:4<(aU x).length):(aU x)[4]=.sl (x.effs.map s8):=by simp[aU,List.getElem_append]
@[simp] theorem atx(h:5<(aU x).length):(aU x)[5]=i64 x.unit:=by simp[aU,List.getElem_append]
@[simp] theorem atw(h:6<(aU x).length):(aU x)[6]=i64 x.busy:=by simp[aU,List.getElem_append]
@[simp] theorem atv(h:7<(aU x).length):(aU x)[7]=i64 x.latency:=by simp[aU,List.getElem_append]
@[simp] theorem atu(h:8<(aU x).length):(aU x)[8]=i64 x.slots:=by simp[aU,List.getElem_append]
@[simp] theorem ag0:((aU x).map AV.p).take 9=(aU x).map AV.p:=by rw[List.take_of_length_le (by simp)]
@[simp] theorem adQ:PV.cells (s7 x)=aU x:=rfl
@[simp] theorem avd:PV.up (s7 x)=.agg ((aU x).map AV.p):=rfl
end
structure aw where
 name:ByteArray
 word:Int
 address:Int
 regs:List pT
 banks:List qw
 units:List FY
 instrs:List dh
 deriving Inhabited
def ah(x:aw):List PV:=[.str x.name,i64 x.word,i64 x.address,.sl (x.regs.map yN),.sl (x.banks.map n4),.sl (x.units.map CJ),.sl (x.instrs.map s7)]
def JT(x:aw):PV:=.agg (ah x)
section
variable (x:aw)
@[simp] theorem agZ:(ah x).length=7:=by simp[ah]
@[simp] theorem agY:(ah x).all (AV.one∘AV.p)=true:=by simp[ah]
@[simp] theorem am1(h:0<(ah x).length):(ah x)[0]=.str x.name:=by simp[ah,List.getElem_append]
@[simp] theorem am0(h:1<(ah x).length):(ah x)[1]=i64 x.word:=by simp[ah,List.getElem_append]
@[simp] theorem amZ(h:2<(ah x).length):(ah x)[2]=i64 x.address:=by simp[ah,List.getElem_append]
@[simp] theorem amY(h:3<(ah x).length):(ah x)[3]=.sl (x.regs.map yN):=by simp[ah,List.getElem_append]
@[simp] theorem amX(h:4<(ah x).length):(ah x)[4]=.sl (x.banks.map n4):=by simp[ah,List.getElem_append]
@[simp] theorem amW(h:5<(ah x).length):(ah x)[5]=.sl (x.units.map CJ):=by simp[ah,List.getElem_append]
@[simp] theorem amV(h:6<(ah x).length):(ah x)[6]=.sl (x.instrs.map s7):=by simp[ah,List.getElem_append]
@[simp] theorem abn:((ah x).map AV.p).take 7=(ah x).map AV.p:=by rw[List.take_of_length_le (by simp)]
@[simp] theorem Xm:PV.cells (JT x)=ah x:=rfl
@[simp] theorem aqC:PV.up (JT x)=.agg ((ah x).map AV.p):=rfl
end
structure XW where
 instr:Int
 args:List Int
 deriving Inhabited
def abm(x:XW):List PV:=[i64 x.instr,ints x.args]
def aqB(x:XW):PV:=.agg (abm x)
section
variable (x:XW)
@[simp] theorem abQ:(abm x).length=2:=by simp[abm]
@[simp] theorem abP:(abm x).all (AV.one∘AV.p)=true:=by simp[abm]
@[simp] theorem acE(h:0<(abm x).length):(abm x)[0]=i64 x.instr:=by simp[abm,List.getElem_append]
@[simp] theorem ab6(h:1<(abm x).length):(abm x)[1]=ints x.args:=by simp[abm,List.getElem_append]
@[simp] theorem abF:((abm x).map AV.p).take 2=(abm x).map AV.p:=by rw[List.take_of_length_le (by simp)]
@[simp] theorem adP:PV.cells (aqB x)=abm x:=rfl
@[simp] theorem avc:PV.up (aqB x)=.agg ((abm x).map AV.p):=rfl
end
structure gf where
 instr:Int
 args:List Int
 deriving Inhabited
def bm(x:gf):List PV:=[i64 x.instr,ints x.args]
def zJ(x:gf):PV:=.agg (bm x)
section
variable (x:gf)
@[simp] theorem amE:(bm x).length=2:=by simp[bm]
@[simp] theorem amD:(bm x).all (AV.one∘AV.p)=true:=by simp[bm]
@[simp] theorem atd(h:0<(bm x).length):(bm x)[0]=i64 x.instr:=by simp[bm,List.getElem_append]
@[simp] theorem atc(h:1<(bm x).length):(bm x)[1]=ints x.args:=by simp[bm,List.getElem_append]
@[simp] theorem agO:((bm x).map AV.p).take 2=(bm x).map AV.p:=by rw[List.take_of_length_le (by simp)]
@[simp] theorem adL:PV.cells (zJ x)=bm x:=rfl
@[simp] theorem au8:PV.up (zJ x)=.agg ((bm x).map AV.p):=rfl
end
structure zU where
 bank:Int
 copy:gf
 load:gf
 store:gf
 deriving Inhabited
def ew(x:zU):List PV:=[i64 x.bank]++(bm x.copy++(bm x.load++(bm x.store)))
def iG(x:zU):PV:=.agg (ew x)
section
variable (x:zU)
@[simp] theorem ans:(ew x).length=7:=by simp[ew]
@[simp] theorem anr:(ew x).all (AV.one∘AV.p)=true:=by simp[ew]
@[simp] theorem atN(h:0<(ew x).length):(ew x)[0]=i64 x.bank:=by simp[ew,List.getElem_append]
@[simp] theorem KV:(((ew x).map AV.p).drop 1).take 2=(bm x.copy).map AV.p:=by simp[ew,List.drop_append,List.take_append,List.drop_eq_nil_of_le]
@[simp] theorem ahb:(((ew x).map AV.p).drop 3).take 2=(bm x.load).map AV.p:=by simp[ew,List.drop_append,List.take_append,List.drop_eq_nil_of_le]
@[simp] theorem abq:(((ew x).map AV.p).drop 5).take 2=(bm x.store).map AV.p:=by simp[ew,List.drop_append,List.take_append,List.drop_eq_nil_of_le]
@[simp] theorem ag9:((ew x).map AV.p).take 7=(ew x).map AV.p:=by rw[List.take_of_length_le (by simp)]
@[simp] theorem adT:PV.cells (iG x)=ew x:=rfl
@[simp] theorem avg:PV.up (iG x)=.agg ((ew x).map AV.p):=rfl
end
structure Conv where
 stack:Int
 link:Int
 bank:Int
 args:List Int
 result:Int
 kept:List Int
 scratch:Int
 moves:List zU
 adjust:gf
 call:gf
 leave:gf
 nop:gf
 align:Int
 deriving Inhabited
def ax(x:Conv):List PV:=[i64 x.stack,i64 x.link,i64 x.bank,ints x.args,i64 x.result,ints x.kept,i64 x.scratch,.sl (x.moves.map iG)]++(bm x.adjust++(bm x.call++(bm x.leave++(bm x.nop++([i64 x.align])))))
def JU(x:Conv):PV:=.agg (ax x)
section
variable (x:Conv)
@[simp] theorem ag7:(ax x).length=17:=by simp[ax]
@[simp] theorem ag5:(ax x).all (AV.one∘AV.p)=true:=by simp[ax]
@[simp] theorem anp(h:0<(ax x).length):(ax x)[0]=i64 x.stack:=by simp[ax,List.getElem_append]
@[simp] theorem ano(h:1<(ax x).length):(ax x)[1]=i64 x.link:=by simp[ax,List.getElem_append]
@[simp] theorem ann(h:2<(ax x).length):(ax x)[2]=i64 x.bank:=by simp[ax,List.getElem_append]
@[simp] theorem anm(h:3<(ax x).length):(ax x)[3]=ints x.args:=by simp[ax,List.getElem_append]
@[simp] theorem anl(h:4<(ax x).length):(ax x)[4]=i64 x.result:=by simp[ax,List.getElem_append]
@[simp] theorem ank(h:5<(ax x).length):(ax x)[5]=ints x.kept:=by simp[ax,List.getElem_append]
@[simp] theorem anj(h:6<(ax x).length):(ax x)[6]=i64 x.scratch:=by simp[ax,List.getElem_append]
@[simp] theorem ani(h:7<(ax x).length):(ax x)[7]=.sl (x.moves.map iG):=by simp[ax,List.getElem_append]
@[simp] theorem TJ:(((ax x).map AV.p).drop 8).take 2=(bm x.adjust).map AV.p:=by simp[ax,List.drop_append,List.take_append,List.drop_eq_nil_of_le]
@[simp] theorem abp:(((ax x).map AV.p).drop 10).take 2=(bm x.call).map AV.p:=by simp[ax,List.drop_append,List.take_append,List.drop_eq_nil_of_le]
@[simp] theorem V':(((ax x).map AV.p).drop 12).take 2=(bm x.leave).map AV.p:=by simp[ax,List.drop_append,List.take_append,List.drop_eq_nil_of_le]
@[simp] theorem ag6:(((ax x).map AV.p).drop 14).take 2=(bm x.nop).map AV.p:=by simp[ax,List.drop_append,List.take_append,List.drop_eq_nil_of_le]
@[simp] theorem ag8(h:16<(ax x).length):(ax x)[16]=i64 x.align:=by simp[ax,List.getElem_append]
@[simp] theorem abo:((ax x).map AV.p).take 17=(ax x).map AV.p:=by rw[List.take_of_length_le (by simp)]
@[simp] theorem Xn:PV.cells (JU x)=ax x:=rfl
@[simp] theorem aqE:PV.up (JU x)=.agg ((ax x).map AV.p):=rfl
end
structure eU where
 m:aw
 c:Conv
 deriving Inhabited
def aD(x:eU):List PV:=ah x.m++(ax x.c)
def Xl(x:eU):PV:=.agg (aD x)
section
variable (x:eU)
@[simp] theorem agT:(aD x).length=24:=by simp[aD]
@[simp] theorem agS:(aD x).all (AV.one∘AV.p)=true:=by simp[aD]
@[simp] theorem amR(h:1<(aD x).length):(aD x)[1]=(ah x.m)[1]'(by simp):=by simp[aD,List.getElem_append]
@[simp] theorem amQ(h:2<(aD x).length):(aD x)[2]=(ah x.m)[2]'(by simp):=by simp[aD,List.getElem_append]
@[simp] theorem amP(h:3<(aD x).length):(aD x)[3]=(ah x.m)[3]'(by simp):=by simp[aD,List.getElem_append]
@[simp] theorem amO(h:4<(aD x).length):(aD x)[4]=(ah x.m)[4]'(by simp):=by simp[aD,List.getElem_append]
@[simp] theorem amN(h:6<(aD x).length):(aD x)[6]=(ah x.m)[6]'(by simp):=by simp[aD,List.getElem_append]
@[simp] theorem amM(h:7<(aD x).length):(aD x)[7]=(ax x.c)[0]'(by simp):=by simp[aD,List.getElem_append]
@[simp] theorem amL(h:8<(aD x).length):(aD x)[8]=(ax x.c)[1]'(by simp):=by simp[aD,List.getElem_append]
@[simp] theorem amK(h:9<(aD x).length):(aD x)[9]=(ax x.c)[2]'(by simp):=by simp[aD,List.getElem_append]
@[simp] theorem agU(h:14<(aD x).length):(aD x)[14]=(ax x.c)[7]'(by simp):=by simp[aD,List.getElem_append]
@[simp] theorem atl:(((aD x).map AV.p).drop 7).take 17=(ax x.c).map AV.p:=by simp[aD,List.drop_append,List.take_append,List.drop_eq_nil_of_le]
@[simp] theorem abl:((aD x).map AV.p).take 24=(aD x).map AV.p:=by rw[List.take_of_length_le (by simp)]
@[simp] theorem Xk:PV.cells (Xl x)=aD x:=rfl
@[simp] theorem aqA:PV.up (Xl x)=.agg ((aD x).map AV.p):=rfl
end
structure U7 where
 m:aw
 ok:Bool
 deriving Inhabited
def bg(x:U7):List PV:=ah x.m++([.bool x.ok])
def aqG(x:U7):PV:=.agg (bg x)
section
variable (x:U7)
@[simp] theorem anu:(bg x).length=8:=by simp[bg]
@[simp] theorem ant:(bg x).all (AV.one∘AV.p)=true:=by simp[bg]
@[simp] theorem atV(h:1<(bg x).length):(bg x)[1]=(ah x.m)[1]'(by simp):=by simp[bg,List.getElem_append]
@[simp] theorem atU(h:2<(bg x).length):(bg x)[2]=(ah x.m)[2]'(by simp):=by simp[bg,List.getElem_append]
@[simp] theorem atT(h:3<(bg x).length):(bg x)[3]=(ah x.m)[3]'(by simp):=by simp[bg,List.getElem_append]
@[simp] theorem atS(h:4<(bg x).length):(bg x)[4]=(ah x.m)[4]'(by simp):=by simp[bg,List.getElem_append]
@[simp] theorem atQ(h:5<(bg x).length):(bg x)[5]=(ah x.m)[5]'(by simp):=by simp[bg,List.getElem_append]
@[simp] theorem axO:((bg x).map AV.p).take 7=(ah x.m).map AV.p:=by simp[bg,List.drop_append,List.take_append,List.drop_eq_nil_of_le]
@[simp] theorem atP(h:7<(bg x).length):(bg x)[7]=.bool x.ok:=by simp[bg,List.getElem_append]
@[simp] theorem adV:PV.cells (aqG x)=bg x:=rfl
@[simp] theorem avi:PV.up (aqG x)=.agg ((bg x).map AV.p):=rfl
end
structure Da where
 m:aw
 c:Conv
 t:gf
 s:dh
 deriving Inhabited
def bP(x:Da):List PV:=ah x.m++(ax x.c++(bm x.t++(aU x.s)))
def aqD(x:Da):PV:=.agg (bP x)
section
variable (x:Da)
@[simp] theorem am6:(bP x).length=35:=by simp[bP]
@[simp] theorem am5:(bP x).all (AV.one∘AV.p)=true:=by simp[bP]
@[simp] theorem atH(h:2<(bP x).length):(bP x)[2]=(ah x.m)[2]'(by simp):=by simp[bP,List.getElem_append]
@[simp] theorem atG(h:3<(bP x).length):(bP x)[3]=(ah x.m)[3]'(by simp):=by simp[bP,List.getElem_append]
@[simp] theorem atF(h:4<(bP x).length):(bP x)[4]=(ah x.m)[4]'(by simp):=by simp[bP,List.getElem_append]
@[simp] theorem axN:((bP x).map AV.p).take 7=(ah x.m).map AV.p:=by simp[bP,List.drop_append,List.take_append,List.drop_eq_nil_of_le]
@[simp] theorem atE(h:7<(bP x).length):(bP x)[7]=(ax x.c)[0]'(by simp):=by simp[bP,List.getElem_append]
@[simp] theorem ana(h:25<(bP x).length):(bP x)[25]=(bm x.t)[1]'(by simp):=by simp[bP,List.getElem_append]
@[simp] theorem am9(h:29<(bP x).length):(bP x)[29]=(aU x.s)[3]'(by simp):=by simp[bP,List.getElem_append]
@[simp] theorem am8(h:30<(bP x).length):(bP x)[30]=(aU x.s)[4]'(by simp):=by simp[bP,List.getElem_append]
@[simp] theorem am7(h:34<(bP x).length):(bP x)[34]=(aU x.s)[8]'(by simp):=by simp[bP,List.getElem_append]
@[simp] theorem ag1:((bP x).map AV.p).take 35=(bP x).map AV.p:=by rw[List.take_of_length_le (by simp)]
@[simp] theorem adR:PV.cells (aqD x)=bP x:=rfl
@[simp] theorem ave:PV.up (aqD x)=.agg ((bP x).map AV.p):=rfl
end
structure View where
 p:eU
 args:List Int
 ins:dh
 main:jY
 one:Bool
 deriving Inhabited
def aB(x:View):List PV:=aD x.p++([ints x.args]++(aU x.ins++(b_ x.main++([.bool x.one]))))
def iX(x:View):PV:=.agg (aB x)
section
variable (x:View)
@[simp] theorem agF:(aB x).length=56:=by simp[aB]
@[simp] theorem agE:(aB x).all (AV.one∘AV.p)=true:=by simp[aB]
@[simp] theorem amz(h:1<(aB x).length):(aB x)[1]=(aD x.p)[1]'(by simp):=by simp[aB,List.getElem_append]
@[simp] theorem amy(h:2<(aB x).length):(aB x)[2]=(aD x.p)[2]'(by simp):=by simp[aB,List.getElem_append]
@[simp] theorem amx(h:3<(aB x).length):(aB x)[3]=(aD x.p)[3]'(by simp):=by simp[aB,List.getElem_append]
@[simp] theorem amw(h:4<(aB x).length):(aB x)[4]=(aD x.p)[4]'(by simp):=by simp[aB,List.getElem_append]
@[simp] theorem amv(h:7<(aB x).length):(aB x)[7]=(aD x.p)[7]'(by simp):=by simp[aB,List.getElem_append]
@[simp] theorem amu(h:8<(aB x).length):(aB x)[8]=(aD x.p)[8]'(by simp):=by simp[aB,List.getElem_append]
@[simp] theorem as6:((aB x).map AV.p).take 24=(aD x.p).map AV.p:=by simp[aB,List.drop_append,List.take_append,List.drop_eq_nil_of_le]
@[simp] theorem agL(h:24<(aB x).length):(aB x)[24]=ints x.args:=by simp[aB,List.getElem_append]
@[simp] theorem agK(h:28<(aB x).length):(aB x)[28]=(aU x.ins)[3]'(by simp):=by simp[aB,List.getElem_append]
@[simp] theorem agJ(h:29<(aB x).length):(aB x)[29]=(aU x.ins)[4]'(by simp):=by simp[aB,List.getElem_append]
@[simp] theorem agI(h:33<(aB x).length):(aB x)[33]=(aU x.ins)[8]'(by simp):=by simp[aB,List.getElem_append]
@[simp] theorem agH(h:34<(aB x).length):(aB x)[34]=(b_ x.main)[0]'(by simp):=by simp[aB,List.getElem_append]
@[simp] theorem pView_main:(((aB x).map AV.p).drop 34).take 21=(b_ x.main).map AV.p:=by simp[aB,List.drop_append,List.take_append,List.drop_eq_nil_of_le]
@[simp] theorem agG(h:55<(aB x).length):(aB x)[55]=.bool x.one:=by simp[aB,List.getElem_append]
@[simp] theorem abj:((aB x).map AV.p).take 56=(aB x).map AV.p:=by rw[List.take_of_length_le (by simp)]
@[simp] theorem Xj:PV.cells (iX x)=aB x:=rfl
@[simp] theorem aqz:PV.up (iX x)=.agg ((aB x).map AV.p):=rfl
end
end Go.En
namespace Go.En
def fA(j:Nat):Nat→List AV
 |0=>[]
 |k+1=>.ref j 0::fA (j+1) k
def refs(k:Nat):List AV:=fA 0 k
def boxes(bs:List (List PV)):Hp:=bs.map fun l=>.box (l.map AV.p)
theorem KJ{j k:Nat}{v:AV}(h:v∈fA j k):∃i,i<j+k∧v=.ref i 0:=by
 induction k generalizing j with
 |zero=>cases h
 |succ k ih=>
  rcases List.mem_cons.1 h with rfl|h
  ·exact⟨j,by omega,rfl⟩
  ·obtain⟨i,h1,h2⟩:=ih h;exact⟨i,by omega,h2⟩
theorem iu{k:Nat}{v:AV}(h:v∈refs k):∃i,i<k∧v=.ref i 0:=by
 obtain⟨i,h1,h2⟩:=KJ h;exact⟨i,by omega,h2⟩
@[simp] theorem L_(bs:List (List PV)):(boxes bs).length=bs.length:=by simp[boxes]
@[simp] theorem agA(h:Hp)(k:Nat):(refs k).map (snap h)=refs k:=by
  have:(refs k).map (snap h)=(refs k).map id:=List.map_congr_left fun v hv=>by
   obtain⟨i,_,rfl⟩:=iu hv;rfl
  simpa using this
@[simp] theorem amc(k:Nat):(refs k).flatMap iJ=[]:=by
  rw[List.flatMap_eq_nil_iff];intro v hv;obtain⟨i,_,rfl⟩:=iu hv;rfl
@[simp] theorem as4(k:Nat):FV (refs k)=false:=by
  show(refs k).any rf=false
  rw[List.any_eq_false];intro v hv;obtain⟨i,_,rfl⟩:=iu hv;simp
@[simp] theorem aa2(k m:Nat)(h:k≤m):(refs k).all (db m)=true:=by
  rw[List.all_eq_true];intro v hv;obtain⟨i,h1,rfl⟩:=iu hv;simp[db];omega
@[simp] theorem aa1(k:Nat):(cZ ((refs (k+1)).flatMap AV.cells)).isSome=false:=rfl
@[simp] theorem V6(k:Nat)(h:0<k):cZ ((refs k).flatMap AV.cells)=none:=by
  obtain⟨j,rfl⟩:∃j,k=j+1:=⟨k-1,by omega⟩
  rfl
@[simp] theorem ahE(f k:Nat):rf (.fn f (refs k))=false:=by
  show(refs k).any _=false
  rw[List.any_eq_false];intro v hv;obtain⟨i,_,rfl⟩:=iu hv;simp
theorem tW(j k:Nat):(fA j k).flatMap vL=List.range' j k:=by
 induction k generalizing j with
 |zero=>rfl
 |succ k ih=>simp[fA,ih,List.range']
theorem km:∀(k j:Nat),jS (List.range j) (List.range' j k)=List.range (j+k)
 |0,j=>by simp
 |k+1,j=>by
  rw[List.range'_succ,FX,if_neg (by simp),←List.range_succ,km k (j+1)]
  congr 1;omega
theorem jo(bs:List (List PV)):∀(n k:Nat),ke (boxes bs) n k (List.range bs.length)=List.range bs.length
 |0,_=>rfl
 |n+1,k=>by
  rw[Ct]
  cases h:(List.range bs.length)[k]? with
  |none=>rfl
  |some id=>
   rw[H5]
   have:EB ((boxes bs).at id)=[]:=by
    have aH:id<bs.length:=by
     obtain⟨h1,h2⟩:=List.getElem?_eq_some_iff.1 h
     simp at h1 h2;omega
    simp[Hp.at,boxes,aH]
   rw[this,Iz,jo bs n (k+1)]
theorem um{k i:Nat}(h:i<k):idx (List.range k) i=some i:=by
 have key:∀(k j i:Nat),i<k→idx (List.range' j k) (j+i)=some i:=by
  intro k
  induction k with
  |zero=>intro j i h;omega
  |succ k ih=>
   intro j i h
   rw[List.range'_succ,PC]
   cases i with
   |zero=>simp
   |succ i=>
    rw[if_neg (by omega),show j+(i+1)=j+1+i from by omega,ih (j+1) i (by omega)]
    rfl
 have:=key k 0 i h
 rwa [Nat.zero_add,←List.range_eq_range'] at this
theorem t_{α:Type}{f:α→Option α}{l:List α}(h:∀x∈l,f x=some x):eH f l=some l:=by
 induction l with
 |nil=>rfl
 |cons x l ih=>simp[h x (by simp),ih (fun y hy=>h y (by simp[hy]))]
theorem KI{k m:Nat}{π:Nat→Option Nat}(hπ:∀i,i<m→π i=some i)(h:k≤m):eH (jw π) (refs k)=some (refs k):=
 t_ fun v hv=>by obtain⟨i,h1,rfl⟩:=iu hv;simp[hπ i (by omega)]
theorem Af{k m:Nat}{π:Nat→Option Nat}(hπ:∀i,i<m→π i=some i)(h:k≤m):eH (ir π) (refs k)=some (refs k):=
 t_ fun v hv=>by obtain⟨i,h1,rfl⟩:=iu hv;simp[hπ i (by omega)]
theorem A1(π:Nat→Option Nat)(bs:List (List PV)):eH (iq π) (boxes bs)=some (boxes bs):=
 t_ fun o ho=>by
  simp only[boxes,List.mem_map] at ho
  obtain⟨l,_,rfl⟩:=ho
  simp
theorem DS(k:Nat):fL (List.range k)=true:=by
 have key:∀l:List Nat,l.Nodup→fL l=true:=by
  intro l
  induction l with
  |nil=>intro _;rfl
  |cons x l ih=>
   intro h
   rw[List.nodup_cons] at h
   simp[fL,h.1,ih h.2]
 exact key _ List.nodup_range
theorem OT(h:Hp):∀(h0:Hp),h0.length=h.length→eY h0 (List.range h.length) h=h:=by
 intro h0 hl
 have key:∀(r:Hp) (j:Nat) (a:Hp),a.length=j+r.length→eY a (List.range' j r.length) r=a.take j++r:=by
  intro r
  induction r with
  |nil=>intro j a ha;simp at ha;simp[←ha]
  |cons o r ih=>
   intro j a ha
   simp only[List.length_cons] at ha ⊢
   rw[List.range'_succ,KP,ih (j+1) (a.set j o) (by simp;omega)]
   apply List.ext_getElem?
   intro i
   rw[List.getElem?_append,List.getElem?_append]
   simp only[List.length_take,List.length_set]
   rcases Nat.lt_trichotomy i j with h1|h1|h1
   ·rw[if_pos (by omega),if_pos (by omega)]
    rw[List.getElem?_take,List.getElem?_take,if_pos (by omega),if_pos h1,List.getElem?_set_ne (by omega)]
   ·subst h1
    rw[if_pos (by omega),if_neg (by omega)]
    rw[List.getElem?_take,if_pos (by omega),List.getElem?_set_self (by omega)]
    rw[show i-min i a.length=0 from by omega];rfl
   ·rw[if_neg (by omega),if_neg (by omega)]
    rw[show i-min j a.length=(i-min (j+1) a.length)+1 from by omega]
    rfl
 have:=key h 0 h0 (by omega)
 rw[List.range_eq_range',this];simp
theorem Tv(bs:List (List PV))(x:PV):reach (boxes bs) (.p x::refs bs.length)=List.range bs.length:=by
 rw[xg]
 have:(AV.p x::refs bs.length).flatMap rj=List.range' 0 bs.length:=by
  rw[List.flatMap_cons,PD,List.nil_append,←tW 0 bs.length]
  exact congrArg List.flatten (List.map_congr_left fun v hv=>by obtain⟨i,_,rfl⟩:=iu hv;rfl)
 rw[this]
 have e:=km bs.length 0
 rw[List.range_zero,Nat.zero_add] at e
 rw[e]
 exact jo bs _ 0
theorem Tw(bs:List (List PV))(x:PV)(g:Nat):reach (boxes bs) [.p x,.fn g (refs bs.length)]=List.range bs.length:=by
 rw[xg]
 have:([AV.p x,.fn g (refs bs.length)]:List AV).flatMap rj=List.range' 0 bs.length:=by
  simp only[List.flatMap_cons,List.flatMap_nil,PD,T6,List.nil_append,List.append_nil]
  exact tW 0 bs.length
 rw[this]
 have e:=km bs.length 0
 rw[List.range_zero,Nat.zero_add] at e
 rw[e]
 exact jo bs _ 0
theorem tK{call:ei}{f:Nat}{as:List AV}{bs:List (List PV)}{y:PV}(hr:reach (boxes bs) as=List.range bs.length)(ha:eH (ir (idx (List.range bs.length))) as=some as)(hc:call f as (boxes bs)=some (.p y,boxes bs)):
  cJ call f as (boxes bs)=some (.p y,boxes bs):=by
 rw[fI,hr,SS]
 have yd:(List.range bs.length).map (boxes bs).at=boxes bs:=by
  apply List.ext_getElem?
  intro i
  by_cases h:i<bs.length
  ·simp[Hp.at,h,boxes]
  ·simp[h,boxes]
 have jc:(boxes bs).all gU=true:=by simp[boxes]
 rw[if_pos,ha,yd,A1,Kk,hc,Ki,if_pos,A1,aaV,Kj]
 ·have:=OT (boxes bs) (boxes bs) rfl
  rw[L_] at this
  rw[this];simp
 ·refine⟨by simp, ?_⟩
  rw[List.take_of_length_le (by simp)];exact jc
 ·rw[Bool.and_eq_true]
  refine⟨DS _, ?_⟩
  rw[List.all_eq_true]
  intro i hi
  have hi:i<bs.length:=by simpa using hi
  simp[hi,Hp.at,boxes]
theorem alw{call:ei}{f:Nat}{x:PV}{bs:List (List PV)}{y:PV}(hc:call f (.p x::refs bs.length) (boxes bs)=some (.p y,boxes bs)):cJ call f (.p x::refs bs.length) (boxes bs)=some (.p y,boxes bs):=
 tK (Tv bs x) (by simp[Af (m:=bs.length) (fun i hi=>um hi) (Nat.le_refl _)]) hc
theorem Oc{call:ei}{f g:Nat}{x:PV}{bs:List (List PV)}{y:PV}(hc:call f [.p x,.fn g (refs bs.length)] (boxes bs)=some (.p y,boxes bs)):cJ call f [.p x,.fn g (refs bs.length)] (boxes bs)=some (.p y,boxes bs):=
 tK (Tw bs x g) (by simp[KI (m:=bs.length) (fun i hi=>um hi) (Nat.le_refl _)]) hc
theorem Tu(bs:List (List PV))(xs:List PV):reach (boxes bs) (.agg (xs.map AV.p)::refs bs.length)=List.range bs.length:=by
 rw[xg]
 have:(AV.agg (xs.map AV.p)::refs bs.length).flatMap rj=List.range' 0 bs.length:=by
  rw[List.flatMap_cons,PE,Lr,List.nil_append,←tW 0 bs.length]
  exact congrArg List.flatten (List.map_congr_left fun v hv=>by obtain⟨i,_,rfl⟩:=iu hv;rfl)
 rw[this]
 have e:=km bs.length 0
 rw[List.range_zero,Nat.zero_add] at e
 rw[e]
 exact jo bs _ 0
theorem Ob{call:ei}{f:Nat}{xs:List PV}{bs:List (List PV)}{y:PV}(hc:call f (.agg (xs.map AV.p)::refs bs.length) (boxes bs)=some (.p y,boxes bs)):cJ call f (.agg (xs.map AV.p)::refs bs.length) (boxes bs)=some (.p y,boxes bs):=
 tK (Tu bs xs) (by simp[Af (m:=bs.length) (fun i hi=>um hi) (Nat.le_refl _)]) hc
@[simp] theorem aiE(bs:List (List PV))(m n:Nat)(h:bs.length≤n):((boxes bs).map (eS m)).take n=boxes bs:=by
  rw[List.take_of_length_le (by simpa using h)]
  simp[boxes,TS]
def l8{ρ:Type}(Q:Nat→Option ρ):Nat→Nat→Option ρ
 |_,0=>none
 |k,n+1=>match Q k with
  |some r=>some r
  |none=>l8 Q (k+1) n
theorem rb{body:St→Option (Ex×St)}{ks:List Nat}{m fuel:Nat}{s:St}(N:Nat)(S:Nat→St)(Q:Nat→Option (Ex×St))(E:Option (Ex×St))(hN:N<fuel)(hs:norm ks m s=S 0)
  (iU:∀k,k<N→∀K:St→Option (Ex×St),fq ks m (body (S k)) K=match Q k with|some r=>some r|none=>K (S (k+1)))
  (mI:∀K:St→Option (Ex×St),fq ks m (body (S N)) K=E):
  iter body ks m fuel s=match l8 Q 0 N with|some r=>some r|none=>E:=by
 have key:=Lo N S (fun k r=>r=match l8 Q k (N-k) with|some r=>some r|none=>E) (r:=iter body ks m fuel s) (fuel:=fuel) (body:=body) (ks:=ks) (m:=m) (s:=s) rfl hN hs (fun k hk K hK=>by
  by_cases h:k<N
  ·rw[iU k h K,show N-k=(N-(k+1))+1 from by omega]
   simp only[l8]
   cases Q k with
   |some r=>rfl
   |none=>exact hK h
  ·obtain rfl:k=N:=by omega
   rw[mI K,Nat.sub_self];rfl)
 exact key
theorem vr{ρ:Type}{Q:Nat→Option ρ}:∀(n k:Nat),(∀i,k≤i→i<k+n→Q i=none)→l8 Q k n=none
 |0,_,_=>rfl
 |n+1,k,h=>by
  simp only[l8,h k (Nat.le_refl _) (by omega)]
  exact vr n (k+1) fun i h1 h2=>h i (by omega) (by omega)
theorem vu{α ρ:Type}{Q:Nat→Option ρ}{p:α→Bool}{F:Nat→ρ}{l:List α}(h:∀k (hk:k<l.length),Q k=if p l[k]=true then some (F k) else none):l8 Q 0 l.length=(l.findIdx? p).map F:=by
 have key:∀(l:List α) (j:Nat) (Q:Nat→Option ρ),(∀k (hk:k<l.length),Q (j+k)=if p l[k]=true then some (F (j+k)) else none)→l8 Q j l.length=(l.findIdx? p).map fun i=>F (j+i):=by
  intro l
  induction l with
  |nil=>intro j Q _;rfl
  |cons x l ih=>
   intro j Q h
   have h0:=h 0 (by simp)
   simp only[Nat.add_zero,List.getElem_cons_zero] at h0
   simp only[List.length_cons,l8,List.findIdx?_cons]
   rw[h0]
   by_cases hp:p x=true
   ·simp[hp]
   ·simp only[hp,if_false]
    rw[ih (j+1) Q fun k hk=>by
     have:=h (k+1) (by simpa using hk)
     simp only[List.getElem_cons_succ] at this
     rw[show j+1+k=j+(k+1) from by omega];exact this]
    simp[Function.comp_def,Nat.add_comm,Nat.add_left_comm]
 simpa using key l 0 Q (by simpa using h)
def fC{α:Type}(p:α→Bool)(l:List α):Int:=match l.findIdx? p with
 |some i=>i
 |none=>-1
theorem kz{α:Type}(p:α→Bool)(l:List α):decide (0≤fC p l)=l.any p:=by
 unfold fC
 cases h:l.findIdx? p with
 |none=>
  rw[List.findIdx?_eq_none_iff] at h
  have:l.any p=false:=by rw[List.any_eq_false];intro x hx;simp[h x hx]
  simp[this]
 |some i=>
  obtain⟨h1,h2,_⟩:=List.findIdx?_eq_some_iff_getElem.1 h
  have:l.any p=true:=List.any_eq_true.2 ⟨_,List.getElem_mem h1,h2⟩
  simp[this]
theorem Ib{ρ:Type}{Q:Nat→Option ρ}{p:Nat→Bool}{F:Nat→ρ}{n:Nat}(h:∀k,k<n→Q k=if p k=true then some (F k) else none):l8 Q 0 n=((List.range n).findIdx? p).map F:=by
 have e:n=(List.range n).length:=by simp
 conv=>lhs;rw[e]
 exact vu (l:=List.range n) (p:=p) (F:=F) fun k hk=>by
  rw[List.getElem_range];exact h k (by simpa using hk)
theorem Fe{α:Type}(p:α→Bool)(l:List α):(l.findIdx? p).isSome=l.any p:=by
 rw[←kz]
 unfold fC
 cases l.findIdx? p<;>simp
def rq(r:Option Nat)(F:Nat→Ex×St)(E:Ex×St):Option (Ex×St):=match r with
 |some i=>some (F i)
 |none=>some E
@[simp] theorem E_(i:Nat)(F:Nat→Ex×St)(E:Ex×St):rq (some i) F E=some (F i):=rfl
@[simp] theorem W0(F:Nat→Ex×St)(E:Ex×St):rq none F E=some E:=rfl
theorem ao{α:Type}(p:α→Bool)(l:List α):(l.findIdx? p=none∧l.any p=false∧fC p l=-1)∨∃i,l.findIdx? p=some i∧l.any p=true∧fC p l=i:=by
 have:=Fe p l
 cases h:l.findIdx? p with
 |none=>rw[h] at this;exact .inl ⟨rfl,this.symm,by simp[fC,h]⟩
 |some i=>rw[h] at this;exact .inr ⟨i,rfl,this.symm,by simp[fC,h]⟩
theorem aJ{α:Type}[Inhabited α]{body:St→Option (Ex×St)}{ks:List Nat}{m fuel:Nat}{s:St}(l:List α)(p:α→Bool)(S:Nat→St)(F:Nat→Ex×St)(E:Ex×St)(hN:l.length<fuel)(hs:norm ks m s=S 0)
  (iU:∀(k:Nat) (x:α),k<l.length→(∀h:k<l.length,l[k]=x)→nth l (k:Int)=x→x∈l→∀K:St→Option (Ex×St),fq ks m (body (S k)) K=if p x=true then some (F k) else K (S (k+1)))
  (mI:∀K:St→Option (Ex×St),fq ks m (body (S l.length)) K=some E):
  iter body ks m fuel s=rq (l.findIdx? p) F E:=by
 rw[rb l.length S (fun k=>if p (nth l (k:Int))=true then some (F k) else none) (some E) hN hs (fun k hk K=>by
  obtain⟨x,hx,bI,hm⟩:=ay hk
  rw[iU k x hk hx bI hm K,bI]
  split<;>rfl) mI,vu (p:=p) (F:=F) (fun k hk=>by rw[bq l k hk])]
 cases l.findIdx? p<;>rfl
theorem bf{body:St→Option (Ex×St)}{ks:List Nat}{m fuel:Nat}{s:St}(N:Nat)(p:Nat→Bool)(S:Nat→St)(F:Nat→Ex×St)(E:Ex×St)(hN:N<fuel)(hs:norm ks m s=S 0)
  (iU:∀k:Nat,k<N→∀K:St→Option (Ex×St),fq ks m (body (S k)) K=if p k=true then some (F k) else K (S (k+1)))
  (mI:∀K:St→Option (Ex×St),fq ks m (body (S N)) K=some E):
  iter body ks m fuel s=rq ((List.range N).findIdx? p) F E:=by
 rw[rb N S (fun k=>if p k=true then some (F k) else none) (some E) hN hs (fun k hk K=>by
  rw[iU k hk K]
  split<;>rfl) mI,Ib (p:=p) (F:=F) (fun k hk=>rfl)]
 cases (List.range N).findIdx? p<;>rfl
theorem av{body:St→Option (Ex×St)}{ks:List Nat}{m fuel:Nat}{s:St}(N:Nat)(S:Nat→St)(E:Ex×St)(hN:N<fuel)(hs:norm ks m s=S 0)
  (iU:∀k:Nat,k<N→∀K:St→Option (Ex×St),fq ks m (body (S k)) K=K (S (k+1)))
  (mI:∀K:St→Option (Ex×St),fq ks m (body (S N)) K=some E):
  iter body ks m fuel s=some E:=by
 rw[rb N S (fun _=>none) (some E) hN hs (fun k hk K=>iU k hk K) mI,vr N 0 (fun _ _ _=>rfl)]
theorem abD{α:Type}[Inhabited α]{body:St→Option (Ex×St)}{ks:List Nat}{m fuel:Nat}{s:St}(l:List α)(p:α→Bool)(S:Nat→St)(F:Nat→Ex×St)(hN:l.length<fuel)(hs:norm ks m s=S 0)
  (iU:∀(k:Nat) (x:α),k<l.length→(∀h:k<l.length,l[k]=x)→nth l (k:Int)=x→x∈l→∀K:St→Option (Ex×St),fq ks m (body (S k)) K=if p x=true then some (F k) else K (S (k+1)))
  (mI:∀K:St→Option (Ex×St),fq ks m (body (S l.length)) K=some (.exit 0,S l.length)):
  iter body ks m fuel s=rq (l.findIdx? p) F (.exit 0,S l.length):=aJ l p S F _ hN hs iU mI
theorem acI{body:St→Option (Ex×St)}{ks:List Nat}{m fuel:Nat}{s:St}(N:Nat)(p:Nat→Bool)(S:Nat→St)(F:Nat→Ex×St)(hN:N<fuel)(hs:norm ks m s=S 0)
  (iU:∀k:Nat,k<N→∀K:St→Option (Ex×St),fq ks m (body (S k)) K=if p k=true then some (F k) else K (S (k+1)))
  (mI:∀K:St→Option (Ex×St),fq ks m (body (S N)) K=some (.exit 0,S N)):
  iter body ks m fuel s=rq ((List.range N).findIdx? p) F (.exit 0,S N):=bf N p S F _ hN hs iU mI
theorem abC{body:St→Option (Ex×St)}{ks:List Nat}{m fuel:Nat}{s:St}(N:Nat)(S:Nat→St)(hN:N<fuel)(hs:norm ks m s=S 0)
  (iU:∀k:Nat,k<N→∀K:St→Option (Ex×St),fq ks m (body (S k)) K=K (S (k+1)))
  (mI:∀K:St→Option (Ex×St),fq ks m (body (S N)) K=some (.exit 0,S N)):
  iter body ks m fuel s=some (.exit 0,S N):=av N S _ hN hs iU mI
theorem aA{k n:Nat}(h:k<n)(hn:n≤1000000):IntKind.i64.wrap ((k:Int)+1)=(k:Int)+1:=wrap64 (by omega) (by omega)
theorem mE{body:St→Option (Ex×St)}{ks:List Nat}{m:Nat}(N:Nat)(I:Nat→St→Prop)(Ro:Option (Ex×St)→Prop)
  (iU:∀(k:Nat) (s:St) (K:St→Option (Ex×St)),k<N→I k s→(∀s',I (k+1) s'→Ro (K s'))→Ro (fq ks m (body s) K))
  (mI:∀(s:St) (K:St→Option (Ex×St)),I N s→Ro (fq ks m (body s) K)){fuel:Nat}{s:St}(hN:N<fuel)(hs:I 0 (norm ks m s)):Ro (iter body ks m fuel s):=by
 have key:∀(fuel k:Nat) (s:St),k≤N→N-k<fuel→I k s→Ro (AD body ks m fuel s):=by
  intro fuel
  induction fuel with
  |zero=>intro k s _ h;omega
  |succ f ih=>
   intro k s hk hf hI
   simp only[AD]
   rw[DI]
   by_cases h:k<N
   ·exact iU k s _ h hI fun s' h'=>ih (k+1) s' (by omega) (by omega) h'
   ·obtain rfl:k=N:=by omega
    exact mI s _ hI
 rw[iter_eq]
 exact key fuel 0 _ (Nat.zero_le _) (by omega) hs
def Dp:Nat→Tr→Prop
 |0,_=>False
 |n+1,t=>t.sub.length≤1000∧∀x∈t.sub,Dp n x
theorem Dp.mono{t:Tr}:∀{n m:Nat},Dp n t→n≤m→Dp m t:=by
 intro n
 induction n generalizing t with
 |zero=>intro m h;exact h.elim
 |succ n ih=>
  intro m h hm
  cases m with
  |zero=>omega
  |succ m=>exact⟨h.1,fun x hx=>ih (h.2 x hx) (by omega)⟩
mutual
def aI:Tr→Tr→Bool
 | .mk k w b n l _ s,.mk k' w' b' n' l' _ s'=>aj (aj (aj (aj (aj (decide (k=k')) (decide (w=w'))) (decide (b=b'))) (cc n n')) (decide (l=l'))) (iS s s')
def iS:List Tr→List Tr→Bool
 |[],[]=>true
 |x::r,y::q=>aI x y&&iS r q
 |_,_=>false
end
def mr(a b:Tr):Bool:=aj (aj (aj (aj (decide (a.kind=b.kind)) (decide (a.width=b.width))) (decide (a.bits=b.bits))) (cc a.name b.name)) (decide (a.low=b.low))
theorem oh(a b:Tr):aI a b=aj (mr a b) (iS a.sub b.sub):=by
 cases a;cases b;rfl
theorem tQ:∀(l q:List Tr),l.length≠q.length→iS l q=false
 |[],[],h=>absurd rfl h
 |[],_::_,_=>rfl
 |_::_,[],_=>rfl
 |x::l,y::q,h=>by
  simp only[iS,tQ l q (by simpa using h),Bool.and_false]
theorem tR:∀(l q:List Tr),l.length=q.length→iS l q= !(List.range l.length).any fun k=> !aI (nth l (k:Int)) (nth q (k:Int))
 |[],[],_=>rfl
 |x::l,y::q,h=>by
  have ih:=tR l q (by simpa using h)
  have e:∀(z:Tr) (l:List Tr) (k:Nat),nth (z::l) ((k+1:Nat):Int)=nth l (k:Int):=fun z l k=>by simp[nth]
  have e0:∀(z:Tr) (l:List Tr),nth (z::l) ((0:Nat):Int)=z:=fun z l=>by simp[nth]
  rw[List.length_cons,List.range_succ_eq_map,List.any_cons,List.any_map,e0,e0,Bool.not_or,Bool.not_not]
  simp only[iS,ih,Function.comp_def,e]
end Go.En
namespace Go.En
section
variable {σ:Type} (step:σ→Tr→Bool×σ)
mutual
def jH(s:σ):Tr→Bool×σ
 | .mk k w b n l z sub=>match step s (.mk k w b n l z sub) with
  |(true,s')=>fm s' sub
  |(false,s')=>(false,s')
def fm(s:σ):List Tr→Bool×σ
 |[]=>(true,s)
 |x::r=>match jH s x with
  |(true,s')=>fm s' r
  |(false,s')=>(false,s')
end
theorem nf(s:σ)(t:Tr):jH step s t=match step s t with
  |(true,s')=>fm step s' t.sub
  |(false,s')=>(false,s'):=by
 cases t;simp only[jH,Tr.sub]
end
theorem ki(h:Hp)(o:Obj):Hp.at (h++[o]) h.length=o:=by simp[Hp.at]
theorem DE(h:Hp)(o o':Obj):(h++[o]).set h.length o'=h++[o']:=by
 rw[List.set_append_right _ _ (Nat.le_refl _),Nat.sub_self];rfl
structure Client(σ:Type)(Hs:σ→Hp→Prop)(base:Nat):Prop where
 box:∀s h (l:List PV),Hs s h→Hs s (h++[.box (l.map AV.p)])
 low:∀s h m,Hs s h→base≤m→m≤h.length→Hs s ((h.map (eS m)).take m)
 len:∀s h,Hs s h→base≤h.length
end Go.En
namespace Go.En
mutual
def aF:Tr→Nat
 | .mk _ _ _ _ _ _ s=>1+bM s
def bM:List Tr→Nat
 |[]=>0
 |x::r=>aF x+bM r
end
theorem bz(t:Tr):aF t=1+bM t.sub:=by cases t;rfl
def Il(s:Int)(_:Tr):Bool×Int:=(true,IntKind.i64.wrap (s+1))
mutual
theorem W_:∀(t:Tr) (s:Int),0≤s→s+aF t≤9223372036854775807→jH Il s t=(true,s+aF t)
 | .mk k w b n l z sub,s,h0,h1=>by
  simp only[aF] at h1
  rw[nf]
  have e:IntKind.i64.wrap (s+1)=s+1:=wrap64 (by omega) (by omega)
  simp only[Il,e,Tr.sub]
  rw[Xa sub (s+1) (by omega) (by omega),aF]
  congr 1;omega
theorem Xa:∀(l:List Tr) (s:Int),0≤s→s+bM l≤9223372036854775807→fm Il s l=(true,s+bM l)
 |[],s,_,_=>by simp[fm,bM]
 |x::r,s,h0,h1=>by
  simp only[bM] at h1
  rw[fm,W_ x s h0 (by omega)]
  simp only
  rw[Xa r (s+aF x) (by omega) (by omega),bM]
  congr 1;omega
end
end Go.En
namespace Go.En
mutual
def eg:Tr→Nat
 | .mk _ _ _ _ _ _ s=>dt s+1
def dt:List Tr→Nat
 |[]=>0
 |x::r=>max (eg x) (dt r)
end
theorem eT(t:Tr):eg t=dt t.sub+1:=by cases t;rfl
theorem z9(a b:List Tr):bM (a++b)=bM a+bM b:=by
 induction a with
 |nil=>simp[bM]
 |cons x a ih=>simp[bM,ih];omega
theorem Qq(a b:List Tr):dt (a++b)=max (dt a) (dt b):=by
 induction a with
 |nil=>simp[dt]
 |cons x a ih=>simp[dt,ih,Nat.max_assoc]
theorem z8{α:Type}{l:List α}{k:Nat}{x:α}(h:k<l.length)(hx:∀h:k<l.length,l[k]=x):l.take (k+1)=l.take k++[x]:=by
 rw[List.take_succ_eq_append_getElem h,hx h]
theorem qG{l:List Tr}{k:Nat}{x:Tr}(h:k<l.length)(hx:∀h:k<l.length,l[k]=x):bM (l.take (k+1))=bM (l.take k)+aF x:=by
 rw[z8 h hx,z9];simp[bM]
theorem AX{l:List Tr}{k:Nat}{x:Tr}(h:k<l.length)(hx:∀h:k<l.length,l[k]=x):dt (l.take (k+1))=max (dt (l.take k)) (eg x):=by
 rw[z8 h hx,Qq];simp[dt]
theorem DB(l:List Tr)(k:Nat):bM (l.take k)≤bM l:=by
 conv=>rhs;rw[←List.take_append_drop k l,z9]
 omega
theorem kG{l:List Tr}{x:Tr}(h:x∈l):aF x≤bM l:=by
 induction l with
 |nil=>cases h
 |cons y l ih=>
  simp only[bM]
  rcases List.mem_cons.1 h with rfl|h
  ·omega
  ·have:=ih h;omega
theorem UK{l:List Tr}{x:Tr}(h:x∈l):eg x≤dt l:=by
 induction l with
 |nil=>cases h
 |cons y l ih=>
  simp only[dt]
  rcases List.mem_cons.1 h with rfl|h
  ·omega
  ·have:=ih h;omega
theorem Dp.dep{t:Tr}:∀{d:Nat},Dp d t→eg t≤d:=by
 intro d
 induction d generalizing t with
 |zero=>intro h;exact h.elim
 |succ d ih=>
  intro h
  rw[eT]
  have:dt t.sub≤d:=by
   have:∀l:List Tr,(∀x∈l,eg x≤d)→dt l≤d:=by
    intro l
    induction l with
    |nil=>intro _;simp[dt]
    |cons x l ih=>intro h;have h1:=h x (by simp);have h2:=ih (fun y hy=>h y (by simp[hy]));simp[dt];omega
   exact this _ fun x hx=>ih (h.2 x hx)
  omega
theorem bX(z:Bool){l:List Tr}{k:Nat}(h:k<l.length):fg z (l.map aT)=.sl (l.map aT):=kF _ _ (by intro e;rw[List.map_eq_nil_iff] at e;rw[e] at h;cases h)
end Go.En
namespace Go.En.V
def Et(d:Option Nat)(s:St):Option (AV×Hp)→Option St
 |some (v,h)=>if h.length=s.hp.length then some ⟨bJ s.tm d v,h⟩ else none
 |none=>none
@[simp] theorem ab3(d:Option Nat)(s:St)(v:AV)(h:Hp):Et d s (some (v,h))=if h.length=s.hp.length then some ⟨bJ s.tm d v,h⟩ else none:=rfl
@[simp] theorem ab4(d:Option Nat)(s:St):Et d s none=none:=rfl
def sJ(x:X)(W:List Nat)(d:Option Nat)(s:St)(f:Nat)(as:List AV):Option St:=
 if bO (x.T.muts f) as=[]∧reach s.hp (dS (x.T.muts f) s.hp as)=W then Et d s (cJ x.call f (dS (x.T.muts f) s.hp as) s.hp) else none
@[simp] theorem aok(x:X)(W:List Nat)(d:Option Nat)(s:St)(f:Nat)(as:List AV):sJ x W d s f as=
  if bO (x.T.muts f) as=[]∧reach s.hp (dS (x.T.muts f) s.hp as)=W then Et d s (cJ x.call f (dS (x.T.muts f) s.hp as) s.hp) else none:=rfl
def Es(x:X)(W:List Nat)(d:Option Nat)(s:St)(as:List AV):AV→Option St
 | .p (.fb f cs)=>sJ x W d s f (cs.map PV.up++as)
 | .p (.fn f cs)=>sJ x W d s f (as++cs.map PV.up)
 | .fn f cs=>sJ x W d s f (as++cs)
 |_=>none
@[simp] theorem aoj(x:X)(W:List Nat)(d:Option Nat)(s:St)(as:List AV)(f:Nat)(cs:List PV):Es x W d s as (.p (.fb f cs))=sJ x W d s f (cs.map PV.up++as):=rfl
@[simp] theorem ahx(x:X)(W:List Nat)(d:Option Nat)(s:St)(as:List AV)(f:Nat)(cs:List PV):Es x W d s as (.p (.fn f cs))=sJ x W d s f (as++cs.map PV.up):=rfl
@[simp] theorem aoi(x:X)(W:List Nat)(d:Option Nat)(s:St)(as:List AV)(f:Nat)(cs:List AV):Es x W d s as (.fn f cs)=sJ x W d s f (as++cs):=rfl
@[simp] theorem Wt(x:X)(W:List Nat)(d:Option Nat)(f:Operand)(args:Array Operand)(ts:Array Nat)(ty:Nat)(pos:String)(af:Array Edge)(gd:Option (Nat×Bool))(s:St):
   mD x W none ⟨d,.call ⟨.value f,args,ts⟩,ty,pos,af,gd⟩ s=
    if cF x.nt d=true∧(uk true (aX s.tm f)&&ef true s.tm args.toList)=true then Es x W d s (gG s.tm args.toList) (uv (aX s.tm f)) else none:=by
  have hC:eJ (.call ⟨.value f,args,ts⟩)=some (f,args.toList):=rfl
  have hK:gu true s.tm (.call ⟨.value f,args,ts⟩)=(uk true (aX s.tm f)&&ef true s.tm args.toList):=by simp[gu,ef]
  unfold mD
  simp only[hC,hK,aN]
  cases hd:cF x.nt d
  ·simp only[mO,b7,Bool.false_eq_true,false_and,if_false]
  ·cases hk:(uk true (aX s.tm f)&&ef true s.tm args.toList)
   ·simp only[mN,mO,aN,b7,Bool.false_eq_true,and_false,if_false]
   ·simp only[mN,aN,and_self,if_true]
    have hG:∀(fi:Nat) (as:List AV),(aQ (rG (decide (bO (x.T.muts fi) as=[]∧reach s.hp (dS (x.T.muts fi) s.hp as)=W))) fun _=>
      aQ (cJ x.call fi (dS (x.T.muts fi) s.hp as) s.hp) fun r=>
      aQ (rG (decide (r.2.length=s.hp.length))) fun _=>some (⟨bJ s.tm d (m8 none r.1),r.2⟩:St))=sJ x W d s fi as:=by
     intro fi as
     rw[pF]
     simp only[sJ,decide_eq_true_eq]
     split
     ·cases cJ x.call fi (dS (x.T.muts fi) s.hp as) s.hp with
      |none=>rfl
      |some r=>
       obtain⟨v,h⟩:=r
       simp only[aN,pF,Et,decide_eq_true_eq]
       rfl
     ·rfl
    unfold dH Es
    cases h:uv (aX s.tm f) with
    |p y=>cases y<;>first|exact hG _ _|rfl
    |fn g cs=>exact hG _ _
    |_=>rfl
theorem mF{body:St→Option (Ex×St)}{ks:List Nat}{m fuel:Nat}{s:St}(N:Nat)(p:Nat→Bool)(S:Nat→St)(F:Nat→Ex×St)(E:Ex×St)(hN:N<fuel)(hs:norm ks m s=S 0)
  (iU:∀k:Nat,k<N→(∀j,j<k→p j=false)→∀K:St→Option (Ex×St),fq ks m (body (S k)) K=if p k=true then some (F k) else K (S (k+1)))
  (mI:(∀j,j<N→p j=false)→∀K:St→Option (Ex×St),fq ks m (body (S N)) K=some E):
  iter body ks m fuel s=rq ((List.range N).findIdx? p) F E:=by
 refine mE N (fun k s=>s=S k∧∀j,j<k→p j=false) (fun r=>r=rq ((List.range N).findIdx? p) F E) ?_ ?_ hN ⟨hs,fun j h=>absurd h (by omega)⟩
 ·rintro k _ K hk ⟨rfl,hp⟩ hK
  rw[iU k hk hp K]
  by_cases h:p k=true
  ·rw[if_pos h]
   have e:(List.range N).findIdx? p=some k:=by
    rw[List.findIdx?_eq_some_iff_getElem]
    refine⟨by simpa using hk,by simpa using h,fun j hj=> ?_⟩
    have:=hp j hj
    simp[this]
   rw[e];rfl
  ·rw[if_neg h]
   refine hK _ ⟨rfl,fun j hj=> ?_⟩
   by_cases RE:j=k
   ·subst RE;simpa using h
   ·exact hp j (by omega)
 ·rintro _ K ⟨rfl,hp⟩
  rw[mI hp K]
  have e:(List.range N).findIdx? p=none:=by
   rw[List.findIdx?_eq_none_iff]
   intro x hx
   exact hp x (by simpa using hx)
  rw[e];rfl
theorem acN{body:St→Option (Ex×St)}{ks:List Nat}{m fuel:Nat}{s:St}(N:Nat)(p:Nat→Bool)(S:Nat→St)(F:Nat→Ex×St)(hN:N<fuel)(hs:norm ks m s=S 0)
  (iU:∀k:Nat,k<N→(∀j,j<k→p j=false)→∀K:St→Option (Ex×St),fq ks m (body (S k)) K=if p k=true then some (F k) else K (S (k+1)))
  (mI:(∀j,j<N→p j=false)→∀K:St→Option (Ex×St),fq ks m (body (S N)) K=some (.exit 0,S N)):
  iter body ks m fuel s=rq ((List.range N).findIdx? p) F (.exit 0,S N):=mF N p S F _ hN hs iU mI
end Go.En.V
namespace Go.En
structure Bd where
 name:ByteArray
 width:Int
 bits:Int
 deriving Inhabited
def KW(x:Bd):List PV:=[.str x.name,i64 x.width,.int .u64 x.bits]
def FF(x:Bd):PV:=.agg (KW x)
section
variable (x:Bd)
@[simp] theorem atY:(KW x).length=3:=by simp[KW]
@[simp] theorem axQ(h:0<(KW x).length):(KW x)[0]=.str x.name:=by simp[KW,List.getElem_append]
@[simp] theorem axP(h:1<(KW x).length):(KW x)[1]=i64 x.width:=by simp[KW,List.getElem_append]
@[simp] theorem aiz:PV.cells (FF x)=KW x:=rfl
@[simp] theorem azy:PV.up (FF x)=.agg ((KW x).map AV.p):=rfl
end
structure Yf where
 pos:Int
 byte:Int
 deriving Inhabited
def abt(x:Yf):List PV:=[.int .u64 x.pos,.int .u8 x.byte]
def aqH(x:Yf):PV:=.agg (abt x)
section
variable (x:Yf)
@[simp] theorem adW:PV.cells (aqH x)=abt x:=rfl
@[simp] theorem avj:PV.up (aqH x)=.agg ((abt x).map AV.p):=rfl
end
structure Ye where
 to:Int
 src:Int
 deriving Inhabited
def abr(x:Ye):List PV:=[i64 x.to,i64 x.src]
def aqF(x:Ye):PV:=.agg (abr x)
section
variable (x:Ye)
@[simp] theorem adU:PV.cells (aqF x)=abr x:=rfl
@[simp] theorem avh:PV.up (aqF x)=.agg ((abr x).map AV.p):=rfl
end
end Go.En
