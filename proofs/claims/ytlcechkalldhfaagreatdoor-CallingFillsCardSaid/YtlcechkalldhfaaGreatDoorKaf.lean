/- Part of the proof of CallingFills: engine, contracts or law, joined by a program from the texts S10 S13 S12 U51. -/
import Derived.Test.YtlcechkalldhfaaGreatDoorKad
import Derived.Laws.Strings
set_option linter.all false
set_option maxRecDepth 100000
namespace Go.En.V
open Go.Proofs
theorem wC(a b:ByteArray):(a==b)=cc a b:=by
 unfold cc
 rw[ByteArray.toList_eq,ByteArray.toList_eq]
 obtain⟨⟨x⟩⟩:=a
 obtain⟨⟨y⟩⟩:=b
 show((⟨x⟩:Array UInt8)==⟨y⟩)=(x==y)
 simp
def qD(k:ByteArray)(v:Int):List (ByteArray×Int)→List (ByteArray×Int)
 |[]=>[(k,v)]
 |(k',v')::r=>if cc k k'=true then(k,v)::r else(k',v')::qD k v r
def ju(k:ByteArray):List (ByteArray×Int)→Option Int
 |[]=>none
 |(k',v')::r=>if cc k k'=true then some v' else ju k r
def smap(l:List (ByteArray×Int)):List (PV×PV):=l.map fun e=>(.str e.1,i64 e.2)
@[simp] theorem alD(k:ByteArray)(v:Int):[(PV.str k,PV.int .i64 v)]=smap [(k,v)]:=rfl
theorem O5(k:ByteArray)(v:Int):∀l,p5 (.str k) (i64 v) (smap l)=some (smap (qD k v l))
 |[]=>rfl
 |(k',v')::r=>by
  have ih:=O5 k v r
  simp only[smap,List.map_cons,p5,qD,Ij,wC,Option.bind_some]
  split
  ·rfl
  ·simp only[smap] at ih;rw[ih];rfl
theorem HL(k:ByteArray):∀l,nV (.str k) (smap l)=some ((ju k l).map i64)
 |[]=>rfl
 |(k',v')::r=>by
  have ih:=HL k r
  simp only[smap,List.map_cons,nV,ju,Ij,wC,Option.bind_some]
  split
  ·rfl
  ·simp only[smap] at ih;rw[ih]
theorem tN(l:List (ByteArray×Int)):da .string (smap l)=true:=by
 simp[da,smap,dK]
theorem xM:fT T 125=some (.string,I3):=by simp[fT]
def gY(k:ByteArray)(l:List (ByteArray×Int)):Int:=(ju k l).getD 0
def TC(h:Hp)(id:Nat)(k:ByteArray)(v:Int):Obj→Option (Hp×AV)
 | .map es=>if da .string es=true then(p5 (.str k) (i64 v) es).map fun lA=>(h.set id (.map lA),.undef) else none
 |_=>none
@[simp] theorem OU(h:Hp)(id:Nat)(k:ByteArray)(v:Int)(l:List (ByteArray×Int)):TC h id k v (.map (smap l))=some (h.set id (.map (smap (qD k v l))),.undef):=by
  simp[TC,tN,O5]
@[simp] theorem aml(h:Hp)(id:Nat)(k:ByteArray)(v:Int):TC h id k v (.map [])=some (h.set id (.map (smap [(k,v)])),.undef):=OU h id k v []
@[simp] theorem abU(h:Hp)(id:Nat)(k:ByteArray)(v:Int):ix T h 125 (.map id) (.p (.str k)) (.p (.int .i64 v))=TC h id k v (h.at id):=by
  simp only[ix,AV.toP,xM,dK,AV.one,true_and,and_true,decide_true]
  cases h.at id<;>rfl
def Ax(k:ByteArray)(c:Bool):Obj→O
 | .map es=>if da .string es=true then
   match nV (.str k) es with
   |some (some v)=>⟨if c then .tup [.p v,.p (.bool true)] else .p v,true⟩
   |some none=>⟨if c then .tup [.p (i64 0),.p (.bool false)] else .p (i64 0),true⟩
   |_=>.bad
  else .bad
 |_=>.bad
@[simp] theorem ahs(k:ByteArray)(l:List (ByteArray×Int)):Ax k false (.map (smap l))=⟨ai (gY k l),true⟩:=by
  simp only[Ax,tN,if_true,HL,gY]
  cases ju k l<;>rfl
@[simp] theorem Ws(h:Hp)(id:Nat)(k:ByteArray)(c:Bool):iy T h 125 (.map id) (.p (.str k)) c=Ax k c (h.at id):=by
  simp only[iy,xM,dK,J3,aO,J3]
  cases h.at id with
  |map es=>
   simp only[Ax]
   cases hk:da .string es
   ·simp
   ·simp only[and_self,if_true]
    rcases nV (.str k) es with _|_|v<;>rfl
  |_=>rfl
@[simp] theorem Kg(l:List PV):cZ (l.map AV.p)=some l:=by
  induction l with
  |nil=>rfl
  |cons x r ih=>simp[cZ,ih]
@[simp] theorem auO(f:Nat)(l:List PV):RU f [.agg (l.map AV.p)]=some ⟨.p (.fb f [.agg l]),true⟩:=by
  simp[RU,iF,uL]
def nZ(k:ByteArray)(v:PV):List (ByteArray×PV)→List (ByteArray×PV)
 |[]=>[(k,v)]
 |(k',v')::r=>if cc k k'=true then(k,v)::r else(k',v')::nZ k v r
def l9(k:ByteArray):List (ByteArray×PV)→Option PV
 |[]=>none
 |(k',v')::r=>if cc k k'=true then some v' else l9 k r
def uD(l:List (ByteArray×PV)):List (PV×PV):=l.map fun e=>(.str e.1,e.2)
theorem O7(k:ByteArray)(v:PV):∀l,p5 (.str k) v (uD l)=some (uD (nZ k v l))
 |[]=>rfl
 |(k',v')::r=>by
  have ih:=O7 k v r
  simp only[uD,List.map_cons,p5,nZ,Ij,wC,Option.bind_some]
  split
  ·rfl
  ·simp only[uD] at ih;rw[ih];rfl
theorem Pb(k:ByteArray):∀l,nV (.str k) (uD l)=some (l9 k l)
 |[]=>rfl
 |(k',v')::r=>by
  have ih:=Pb k r
  simp only[uD,List.map_cons,nV,l9,Ij,wC,Option.bind_some]
  split
  ·rfl
  ·simp only[uD] at ih;rw[ih]
theorem AO(l:List (ByteArray×PV)):da .string (uD l)=true:=by
 simp[da,uD,dK]
theorem xK:fT T 168=some (.string,F3):=by simp[fT]
def TD(h:Hp)(id:Nat)(k:ByteArray)(v:PV):Obj→Option (Hp×AV)
 | .map es=>if da .string es=true then(p5 (.str k) v es).map fun lA=>(h.set id (.map lA),.undef) else none
 |_=>none
@[simp] theorem OV(h:Hp)(id:Nat)(k:ByteArray)(v:PV)(l:List (ByteArray×PV)):TD h id k v (.map (uD l))=some (h.set id (.map (uD (nZ k v l))),.undef):=by
  simp[TD,AO,O7]
@[simp] theorem amn(h:Hp)(id:Nat)(k:ByteArray)(v:PV):TD h id k v (.map [])=some (h.set id (.map (uD [(k,v)])),.undef):=OV h id k v []
@[simp] theorem abS(h:Hp)(id:Nat)(k:ByteArray)(f:Nat)(cs:List PV):ix T h 168 (.map id) (.p (.str k)) (.p (.fb f cs))=TD h id k (.fb f cs) (h.at id):=by
  simp only[ix,AV.toP,xK,dK,AV.one,true_and,and_true,decide_true]
  cases h.at id<;>rfl
def Js(k:ByteArray)(c:Bool):Obj→O
 | .map es=>if da .string es=true then
   match nV (.str k) es with
   |some (some v)=>⟨if c then .tup [.p v,.p (.bool true)] else .p v,true⟩
   |some none=>⟨if c then .tup [.p .nilf,.p (.bool false)] else .p .nilf,true⟩
   |_=>.bad
  else .bad
 |_=>.bad
@[simp] theorem ahu(k:ByteArray)(l:List (ByteArray×PV)):Js k false (.map (uD l))=⟨.p ((l9 k l).getD .nilf),true⟩:=by
  simp only[Js,AO,if_true,Pb]
  cases l9 k l<;>rfl
@[simp] theorem Wq(h:Hp)(id:Nat)(k:ByteArray)(c:Bool):iy T h 168 (.map id) (.p (.str k)) c=Js k c (h.at id):=by
  simp only[iy,xK,dK,J79,aO,J79]
  cases h.at id with
  |map es=>
   simp only[Js]
   cases hk:da .string es
   ·simp
   ·simp only[and_self,if_true,aO]
    rcases nV (.str k) es with _|_|v<;>rfl
  |_=>rfl
def ud(k:Int)(v:Int):List (Int×Int)→List (Int×Int)
 |[]=>[(k,v)]
 |(k',v')::r=>if k=k' then(k,v)::r else(k',v')::ud k v r
def xU(k:Int):List (Int×Int)→Option Int
 |[]=>none
 |(k',v')::r=>if k=k' then some v' else xU k r
def oH(l:List (Int×Int)):List (PV×PV):=l.map fun e=>(.int .u8 e.1,i64 e.2)
theorem O6(k:Int)(v:Int):∀l,p5 (.int .u8 k) (i64 v) (oH l)=some (oH (ud k v l))
 |[]=>rfl
 |(k',v')::r=>by
  have ih:=O6 k v r
  by_cases h:k=k'
  ·simp[oH,p5,ud,Ij,h]
  ·have h':(k==k')=false:=by simpa using h
   simp only[oH] at ih
   simp[oH,p5,ud,Ij,h,h',ih]
theorem Pa(k:Int):∀l,nV (.int .u8 k) (oH l)=some ((xU k l).map i64)
 |[]=>rfl
 |(k',v')::r=>by
  have ih:=Pa k r
  by_cases h:k=k'
  ·simp[oH,nV,xU,Ij,h]
  ·have h':(k==k')=false:=by simpa using h
   simp only[oH] at ih
   simp[oH,nV,xU,Ij,h,h',ih]
theorem Az(l:List (Int×Int)):da (.int .u8) (oH l)=true:=by
 simp[da,oH,dK]
theorem xL:fT T 127=some (.int .u8,I3):=by simp[fT]
def kS(k:Int)(l:List (Int×Int)):Int:=(xU k l).getD 0
def abc(h:Hp)(id:Nat)(k:Int)(v:Int):Obj→Option (Hp×AV)
 | .map es=>if da (.int .u8) es=true then(p5 (.int .u8 k) (i64 v) es).map fun lA=>(h.set id (.map lA),.undef) else none
 |_=>none
@[simp] theorem amm(h:Hp)(id:Nat)(k:Int)(v:Int)(l:List (Int×Int)):abc h id k v (.map (oH l))=some (h.set id (.map (oH (ud k v l))),.undef):=by
  simp[abc,Az,O6]
@[simp] theorem abT(h:Hp)(id:Nat)(k:Int)(v:Int):ix T h 127 (.map id) (.p (.int .u8 k)) (.p (.int .i64 v))=abc h id k v (h.at id):=by
  simp only[ix,AV.toP,xL,dK,AV.one,true_and,and_true,decide_true]
  cases h.at id<;>rfl
def Jr(k:Int)(c:Bool):Obj→O
 | .map es=>if da (.int .u8) es=true then
   match nV (.int .u8 k) es with
   |some (some v)=>⟨if c then .tup [.p v,.p (.bool true)] else .p v,true⟩
   |some none=>⟨if c then .tup [.p (i64 0),.p (.bool false)] else .p (i64 0),true⟩
   |_=>.bad
  else .bad
 |_=>.bad
@[simp] theorem aht(k:Int)(l:List (Int×Int)):Jr k false (.map (oH l))=⟨ai (kS k l),true⟩:=by
  simp only[Jr,Az,if_true,Pa,kS]
  cases xU k l<;>rfl
@[simp] theorem Wr(h:Hp)(id:Nat)(k:Int)(c:Bool):iy T h 127 (.map id) (.p (.int .u8 k)) c=Jr k c (h.at id):=by
  simp only[iy,xL,dK,J3,aO,J3]
  cases h.at id with
  |map es=>
   simp only[Jr]
   cases hk:da (.int .u8) es
   ·simp
   ·simp only[and_self,if_true,decide_true]
    rcases nV (.int .u8 k) es with _|_|v<;>rfl
  |_=>rfl
theorem Ew(c k v:Int):∀l,kS c (ud k v l)=if c=k then v else kS c l
 |[]=>by by_cases h:c=k<;>simp[ud,kS,xU,h]
 |(k',v')::r=>by
  have ih:=Ew c k v r
  unfold kS at ih ⊢
  by_cases h:k=k'
  ·subst h
   by_cases h2:c=k<;>simp[ud,xU,h2]
  ·by_cases h2:c=k'
   ·subst h2
    have:¬c=k:=fun e=>h e.symm
    simp[ud,xU,h,this]
   ·simp only[ud,h,if_false,xU,h2]
    exact ih
theorem azF:vV T Tryz.prog 3 30=true:=by kernel_rfl
theorem aro:vV T Tryz.prog 33 30=true:=by kernel_rfl
theorem arn:vV T Tryz.prog 63 30=true:=by kernel_rfl
theorem arl:vV T Tryz.prog 93 30=true:=by kernel_rfl
theorem ae5:vV T Tryz.prog 123 30=true:=by kernel_rfl
theorem ae4:vV T Tryz.prog 153 30=true:=by kernel_rfl
theorem ae3:vV T Tryz.prog 183 30=true:=by kernel_rfl
theorem ae2:vV T Tryz.prog 213 30=true:=by kernel_rfl
theorem ae1:vV T Tryz.prog 243 30=true:=by kernel_rfl
theorem ae0:vV T Tryz.prog 273 30=true:=by kernel_rfl
theorem apU:∀f fn,fs f=some fn→Tryz.prog.funcs[f]? =some fn∧qp T f fn=true:=by
 intro f fn h
 unfold fs at h
 split at h
 case isFalse=>cases h
 rename_i hc
 obtain⟨h1,h2⟩:=hc
 refine⟨h, ?_⟩
 by_cases h3:f<33
 ·exact gI azF (by omega) h3 h
 by_cases h33:f<63
 ·exact gI aro (by omega) h33 h
 by_cases h63:f<93
 ·exact gI arn (by omega) h63 h
 by_cases h93:f<123
 ·exact gI arl (by omega) h93 h
 by_cases azd:f<153
 ·exact gI ae5 (by omega) azd h
 by_cases azc:f<183
 ·exact gI ae4 (by omega) azc h
 by_cases aza:f<213
 ·exact gI ae3 (by omega) aza h
 by_cases ay9:f<243
 ·exact gI ae2 (by omega) ay9 h
 by_cases ay8:f<273
 ·exact gI ae1 (by omega) ay8 h
 by_cases ay7:f<303
 ·exact gI ae0 (by omega) ay7 h
 omega
theorem mixed:Tryz.prog.follows .mixedOrders=true:=by kernel_rfl
noncomputable def L:ct:=⟨T.loops,fun f=>(fs f).map (·.ntmps),T.glob⟩
theorem avv(n f:Nat)(xs:List AV)(h:Hp)(r:AV×Hp)(he:R n f xs h=some r):dq L T.fresh Tryz.prog f xs h r:=by
 obtain⟨h1,h2⟩:=adi (T:=T) (fs:=fs) rfl apU
 exact(Kh azH mixed rfl h1 h2 (fun _ _ _ _ e=>by cases e) n).1 f xs h r he
end Go.En.V
