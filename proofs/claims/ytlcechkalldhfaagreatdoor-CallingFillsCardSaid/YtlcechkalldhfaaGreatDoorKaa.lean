/- Part of the proof of CallingFills: engine, contracts or law, joined by a program from the texts E1 E2 E3 E4 E5 E6 E7 E18 E8 E9 E10 E11 E12 E13 E14 E15 E16 E17 E19 E20 E21 E22 E23. -/
import GoSem.Step
import Derived.Below
import Derived.Laws.Rows
import Derived.Laws.Cells
import Derived.Laws.AppendOwn
import Derived.Laws.Slices
import Derived.Laws.CopyRow
import Derived.Calls
import Derived.Laws.Tables
import Derived.Laws.StructEq
import Derived.MapKept
import Derived.Laws.Append
import Derived.RangeFuncLeaves
import Derived.OrdersIn
set_option linter.all false
set_option maxRecDepth 100000
namespace Go.En
inductive PV where
 |int (k:IntKind) (n:Int)
 |bool (b:Bool)
 |str (s:ByteArray)
 |agg (cs:List PV)
 |sl (es:List PV)
 |nils
 |sle
 |ptr (cs:List PV) (off:Nat)
 |nilp
 |fn (f:Nat) (abY:List PV)
 |fb (f:Nat) (first:List PV)
 |nilf
 |ifc (t:Nat) (x:PV)
 |nili
 |nilm
 deriving Inhabited
inductive AV where
 |p (x:PV)
 |agg (cs:List AV)
 |ref (id off:Nat)
 |arr (id gen off len:Nat)
 |elt (id gen i off:Nat)
 |fn (f:Nat) (abY:List AV)
 |yl (id:Nat)
 |map (id:Nat)
 |it (id:Nat)
 |glob (g:Nat)
 |tup (vs:List AV)
 |gd (b:Bool) (v:AV)
 |undef
 deriving Inhabited
abbrev Tm:=List (Nat×AV)
inductive Ex where
 |nor|exit (id:Nat)|ret
inductive LS where
 |ready|busy|done (e:Ex)
inductive Obj where
 |box (cs:List AV)
 |arr (gen sz:Nat) (shared:Bool) (es:List PV)
 |map (es:List (PV×PV))
 |loop (st:LS) (f h_:Nat) (tm:Tm)
 |dead
 deriving Inhabited
abbrev Hp:=List Obj
structure TI where
 desc:TypeDesc
 size:Nat
 bytes:Nat
 zero:List PV
structure cX where
 info:Nat→Option TI
 keep:Nat→Nat→List Nat
 own:Nat→Nat→Nat
 muts:Nat→Bool
 seqs:Nat→Nat→List Nat
 late:Nat→Nat→List (Nat×List Nat×List Nat)
 fresh:Nat→Bool
 gives:Nat→Bool
 loops:Nat→Nat→Option (List Nat×Code×Code)
 glob:Nat→Option (List PV)
 grow:Nat→Nat→List (Nat×Nat×Nat)
 split:Nat→Bool
structure St where
 tm:Tm
 hp:Hp
def aQ{α β:Type}(a:Option α)(f:α→Option β):Option β:=
 match a with
 |none=>none
 |some x=>f x
def kO{α β:Type}(a:Option α)(f:α→β)(g:Unit→β):β:=
 match a with
 |none=>g ()
 |some x=>f x
def rG(b:Bool):Option Unit:=if b=true then some () else none
theorem aN{α β:Type}(x:α)(f:α→Option β):aQ (some x) f=f x:=rfl
theorem b7{α β:Type}(f:α→Option β):aQ none f=none:=rfl
theorem bd{α β:Type}(x:α)(f:α→β)(g:Unit→β):kO (some x) f g=f x:=rfl
theorem aW{α β:Type}(f:α→β)(g:Unit→β):kO none f g=g ():=rfl
theorem mN:rG true=some ():=rfl
theorem mO:rG false=none:=rfl
theorem pF{β:Type}(b:Bool)(f:Unit→Option β):aQ (rG b) f=if b=true then f () else none:=by cases b<;>rfl
def look:Tm→Nat→AV
 |[],_=>.undef
 |(k,v)::r,i=>if k=i then v else look r i
def put:Tm→Nat→AV→Tm
 |[],i,v=>[(i,v)]
 |(k,u)::r,i,v=>if k=i then(k,v)::r else(k,u)::put r i v
def bJ(t:Tm)(d:Option Nat)(v:AV):Tm:=
 match d with
 |some i=>put t i v
 |none=>t
def AV.cells:AV→List AV
 | .agg cs=>cs
 |x=>[x]
def PV.cells:PV→List PV
 | .agg cs=>cs
 |x=>[x]
def AV.one:AV→Bool
 | .p (.agg _)=>false
 | .p _=>true
 | .ref _ _=>true
 | .arr _ _ _ _=>true
 | .elt _ _ _ _=>true
 | .fn _ _=>true
 | .yl _=>true
 | .map _=>true
 | .glob _=>true
 |_=>false
def cZ:List AV→Option (List PV)
 |[]=>some []
 | .p x::r=>(cZ r).map (x::·)
 |_=>none
def uL:AV→Option PV
 | .p x=>some x
 | .agg cs=>(cZ cs).map .agg
 |_=>none
def iF:List AV→Option (List PV)
 |[]=>some []
 |x::r=>(uL x).bind fun y=>(iF r).map (y::·)
def AV.toP:AV→Option PV
 | .p x=>some x
 | .agg cs=>(cZ cs).map .agg
 | .fn f cs=>(iF cs).map (.fn f)
 |_=>none
def PV.up:PV→AV
 | .agg cs=>.agg (cs.map .p)
 |x=>.p x
def gP:Value→Option AV
 | .int k n=>some (.p (.int k n))
 | .bool b=>some (.p (.bool b))
 | .string s=>some (.p (.str s))
 | .slice none 0 0=>some (.p .nils)
 | .pointer none=>some (.p .nilp)
 | .nilFunc=>some (.p .nilf)
 | .nilIface=>some (.p .nili)
 | .map none=>some (.p .nilm)
 |_=>none
def lU:List Value→Option (List AV)
 |[]=>some []
 |v::r=>(gP v).bind fun x=>(lU r).map (x::·)
def Jj:Value→AV
 | .agg cs=>((lU cs.toList).map .agg).getD .undef
 |v=>(gP v).getD .undef
def aX(tm:Tm):Operand→AV
 | .tmp t=>look tm t
 | .const v=>Jj v
 | .func f=>.p (.fn f [])
 | .global g=>.glob g
def uv:AV→AV
 | .gd _ x=>x
 |x=>x
def uk(g:Bool):AV→Bool
 | .gd b _=> !g||b
 |_=>true
structure O where
 v:AV
 ok:Bool
def O.bad:O:=⟨.undef,false⟩
def O.of:Option AV→O
 |some v=>⟨v,true⟩
 |none=>.bad
def dN(op:BinOp)(k:IntKind)(a b:Int):O:=
 match op with
 | .add=>⟨.p (.int k (k.wrap (a+b))),true⟩
 | .sub=>⟨.p (.int k (k.wrap (a-b))),true⟩
 | .mul=>⟨.p (.int k (k.wrap (a*b))),true⟩
 | .quo=>⟨.p (.int k (k.wrap (a.tdiv b))),decide (b≠0)⟩
 | .rem=>⟨.p (.int k (a.tmod b)),decide (b≠0)⟩
 | .and=>⟨.p (.int k (k.wrap ((BitVec.ofInt k.bits a&&&BitVec.ofInt k.bits b).toNat:Int))),true⟩
 | .or=>⟨.p (.int k (k.wrap ((BitVec.ofInt k.bits a|||BitVec.ofInt k.bits b).toNat:Int))),true⟩
 | .xor=>⟨.p (.int k (k.wrap ((BitVec.ofInt k.bits a^^^BitVec.ofInt k.bits b).toNat:Int))),true⟩
 | .andNot=>⟨.p (.int k (k.wrap ((BitVec.ofInt k.bits a&&&~~~ BitVec.ofInt k.bits b).toNat:Int))),true⟩
 | .shl=>⟨.p (.int k (k.wrap (a*2^(min b.toNat k.bits)))),decide (0≤b)⟩
 | .shr=>⟨.p (.int k (a.fdiv (2^(min b.toNat k.bits)))),decide (0≤b)⟩
 | .eql=>⟨.p (.bool (a==b)),true⟩
 | .neq=>⟨.p (.bool (a !=b)),true⟩
 | .lss=>⟨.p (.bool (decide (a<b))),true⟩
 | .leq=>⟨.p (.bool (decide (a≤b))),true⟩
 | .gtr=>⟨.p (.bool (decide (a>b))),true⟩
 | .geq=>⟨.p (.bool (decide (a≥b))),true⟩
def Bv(op:BinOp)(x y:ByteArray):O:=
 match op with
 | .add=>⟨.p (.str (x++y)),decide (((x.size+y.size:Nat):Int)≤9223372036854775807)⟩
 | .eql=>⟨.p (.bool (x.toList==y.toList)),true⟩
 | .neq=>⟨.p (.bool !(x.toList==y.toList)),true⟩
 | .lss=>⟨.p (.bool (Op.bytesLess x.toList y.toList)),true⟩
 | .leq=>⟨.p (.bool (Op.bytesLess x.toList y.toList||x.toList==y.toList)),true⟩
 | .gtr=>⟨.p (.bool !(Op.bytesLess x.toList y.toList||x.toList==y.toList)),true⟩
 | .geq=>⟨.p (.bool !(Op.bytesLess x.toList y.toList)),true⟩
 |_=>.bad
def Ij:PV→PV→Option Bool
 | .int k a,.int k' b=>if k=k' then some (a==b) else none
 | .bool a,.bool b=>some (a==b)
 | .str a,.str b=>some (a==b)
 |_,_=>none
def descOf(T:cX)(t:Nat):Option TypeDesc:=match T.info t with|some i=>some i.desc|none=>none
def Sk:Option TypeDesc→AV→AV→Option Bool
 |some (.int _),.p (.int k a),.p (.int k' b)=>if k=k' then some (a==b) else none
 |some .bool,.p (.bool a),.p (.bool b)=>some (a==b)
 |some .string,.p (.str a),.p (.str b)=>some (a.toList==b.toList)
 |_,_,_=>none
def cg(T:cX):Nat→List Field→List AV→List AV→Option Bool
 |_,[],[],[]=>some true
 |n,f::r,x::xs,y::ys=>if f.name≠ "_" ∧f.offset=n then
   (Sk (descOf T f.type) x y).bind fun b=>(cg T (n+1) r xs ys).map fun c=>b&&c
  else none
 |_,_,_,_=>none
def isNil:PV→Option Bool
 | .nils=>some true
 | .sle=>some false
 | .sl (_::_)=>some false
 |_=>none
def oz(d:TypeDesc)(op:BinOp)(x:PV):O:=
 match d,op,isNil x with
 | .slice _,.eql,some b=>⟨.p (.bool b),true⟩
 | .slice _,.neq,some b=>⟨.p (.bool !b),true⟩
 |_,_,_=>.bad
def dF(d:TypeDesc)(op:BinOp)(x y:AV):O:=
 match x,y with
 | .p (.int k a),.p (.int k' b)=>match op with
  | .shl=>dN .shl k a b
  | .shr=>dN .shr k a b
  |op=>if k=k' then dN op k a b else .bad
 | .p (.str a),.p (.str b)=>Bv op a b
 | .p (.bool a),.p (.bool b)=>match op,d with
  | .eql,.bool=>⟨.p (.bool (a==b)),true⟩
  | .neq,.bool=>⟨.p (.bool !(a==b)),true⟩
  |_,_=>.bad
 | .p x,.p .nils=>oz d op x
 |_,_=>.bad
def VO(op:UnOp)(x:AV):O:=
 match op,x with
 | .not,.p (.bool b)=>⟨.p (.bool !b),true⟩
 | .neg,.p (.int k n)=>⟨.p (.int k (k.wrap (0-n))),true⟩
 | .xor,.p (.int k n)=>⟨.p (.int k (k.wrap ((BitVec.ofInt k.bits (if k.signed then -1 else k.max)^^^BitVec.ofInt k.bits n).toNat:Int))),true⟩
 |_,_=>.bad
def AV.lenOf:AV→Option Nat
 | .p (.sl l)=>some l.length
 | .p .nils=>some 0
 | .p .sle=>some 0
 | .p (.str s)=>some s.size
 | .arr _ _ _ n=>some n
 |_=>none
def Hp.at(h:Hp)(id:Nat):Obj:=(h[id]?).getD .dead
def iE(h:Hp):AV→Option (List AV×Nat)
 | .p (.ptr cs off)=>some (cs.map .p,off)
 | .ref id off=>match h.at id with
  | .box cs=>some (cs,off)
  |_=>none
 | .elt id g i off=>match h.at id with
  | .arr g' _ _ es=>if g=g' then(es[i]?).map fun x=>(x.cells.map .p,off) else none
  |_=>none
 |_=>none
def nq(n:Nat):AV→Option AV
 | .p (.ptr cs off)=>some (.p (.ptr cs (off+n)))
 | .ref id off=>some (.ref id (off+n))
 | .elt id g i off=>some (.elt id g i (off+n))
 |_=>none
def aO:TypeDesc→Bool
 | .struct _=>true
 | .array _ _=>true
 |_=>false
def o9(T:cX)(h:Hp):AV→Option (List AV×Nat)
 | .glob g=>(T.glob g).map fun cs=>(cs.map .p,0)
 |a=>iE h a
def ql(T:cX)(h:Hp)(t:Nat)(a:AV):O:=
 match T.info t,o9 T h a with
 |some i,some (cs,off)=>
  if aO i.desc then⟨.agg ((cs.drop off).take i.size),decide (off+i.size≤cs.length)⟩
  else⟨cs.getD off .undef,decide (off<cs.length)⟩
 |_,_=>.bad
def abd(T:cX)(s f:Nat):Option (Nat×TI):=
 match descOf T s with
 |some (.struct fs)=>(fs.toList[f]?).bind fun x=>(T.info x.type).map fun i=>(x.offset,i)
 |_=>none
def elemOf(T:cX)(t:Nat):Option TI:=
 match descOf T t with
 |some (.slice e)=>T.info e
 |_=>none
def uF(T:cX)(s:Nat)(x:AV)(f:Nat):O:=
 match abd T s f with
 |some (off,i)=>if i.size=0 then .bad else .of (nq off x)
 |none=>.bad
def D7(T:cX)(s:Nat)(x:AV)(f:Nat):O:=
 match abd T s f,x with
 |some (off,i),.agg cs=>
  if aO i.desc then⟨.agg ((cs.drop off).take i.size),decide (off+i.size≤cs.length)⟩
  else⟨cs.getD off .undef,decide (off<cs.length)⟩
 |_,_=>.bad
def dm(T:cX)(h:Hp)(t:Nat)(x i:AV):O:=
 match x,i with
 | .p (.sl l),.p (.int _ n)=>match elemOf T t with
  |some e=>⟨.p (.ptr (l.getD n.toNat .nils).cells 0),decide (0≤n∧n<(l.length:Int))&&decide ((l.getD n.toNat .nils).cells.length=e.size)⟩
  |none=>.bad
 | .arr id g off len,.p (.int _ n)=>match elemOf T t,h.at id with
  |some e,.arr g' sz _ es=>⟨.elt id g (off+n.toNat) 0,decide (0≤n∧n<(len:Int))&&(decide (g=g'∧sz=e.size∧off+len≤es.length))⟩
  |_,_=>.bad
 | .ref id off,.p (.int _ n)=>match descOf T t with
  |some (.array len e)=>match T.info e with
   |some i=>⟨.ref id (off+n.toNat*i.size),decide (0≤n∧n<(len:Int))⟩
   |none=>.bad
  |_=>.bad
 | .glob g,.p (.int _ n)=>match descOf T t,T.glob g with
  |some (.array len e),some cs=>match T.info e with
   |some i=>⟨.p (.ptr cs (n.toNat*i.size)),decide (0≤n∧n<(len:Int))⟩
   |none=>.bad
  |_,_=>.bad
 |_,_=>.bad
def ig(s:ByteArray)(i:Int):Int:=((s.data.toList.getD i.toNat 0).toNat:Int)
def ri(T:cX)(t:Nat)(x i:AV):O:=
 match x,i with
 | .p (.str s),.p (.int _ n)=>match descOf T t with
  |some .string=>⟨.p (.int .u8 (ig s n)),decide (0≤n∧n<(s.size:Int))⟩
  |_=>.bad
 | .agg cs,.p (.int _ n)=>match descOf T t with
  |some (.array len e)=>match T.info e with
   |some i=>if aO i.desc||i.size !=1 then .bad else⟨cs.getD n.toNat .undef,decide (0≤n∧n<(len:Int)∧n<(cs.length:Int))⟩
   |none=>.bad
  |_=>.bad
 |_,_=>.bad
def bnd(d:Nat):Option AV→Option Int
 |none=>some d
 |some (.p (.int _ n))=>some n
 |_=>none
def eG(T:cX)(h:Hp)(t:Nat)(x:AV)(lo hi:Option AV):O:=
 match bnd 0 lo,(x.lenOf).bind fun n=>bnd n hi with
 |some l,some r=>match x with
  | .p (.sl es)=>match elemOf T t with
   |some e=>⟨.p (.sl ((es.take r.toNat).drop l.toNat)),decide (0≤l∧l≤r∧r≤(es.length:Int))&&decide (l=0∨∀x∈es,x.cells.length=e.size)⟩
   |none=>.bad
  | .p .nils=>if (elemOf T t).isSome then⟨.p .nils,decide (l=0∧r=0)⟩ else .bad
  | .p (.str s)=>match descOf T t with
   |some .string=>⟨.p (.str (s.extract l.toNat r.toNat)),decide (0≤l∧l≤r∧r≤(s.size:Int))⟩
   |_=>.bad
  | .arr id g off len=>match elemOf T t,h.at id with
   |some e,.arr g' sz _ es=>⟨.arr id g (off+l.toNat) (r-l).toNat,decide (0≤l∧l≤r∧(off:Int)+r≤(es.length:Int))&&decide (g=g'∧sz=e.size∧off+len≤es.length)⟩
   |_,_=>.bad
  |_=>.bad
 |_,_=>.bad
def sf(b:Bool)(x y:AV):O:=
 match uv x,uv y with
 | .p (.bool p),.p (.bool q)=>⟨.p (.bool (if b then p else q)),(!b||uk true x)&&(b||uk true y)⟩
 |x',y'=>if b=true then⟨x',uk true x⟩ else⟨y',uk true y⟩
def splice(cs:List AV)(off:Nat)(vs:List AV):List AV:=cs.take off++vs++cs.drop (off+vs.length)
def de(T:cX)(s:Nat):List AV→List (Nat×AV)→Option (List AV)
 |cs,[]=>some cs
 |cs,(f,v)::r=>(abd T s f).bind fun p=>if v.cells.length=p.2.size∧p.1+p.2.size≤cs.length∧v.cells.all AV.one=true then de T s (splice cs p.1 v.cells) r else none
def oV(sz:Nat):List AV→List (Nat×AV)→Option (List AV)
 |cs,[]=>some cs
 |cs,(j,v)::r=>if v.cells.length=sz∧j*sz+sz≤cs.length∧v.cells.all AV.one=true then oV sz (splice cs (j*sz) v.cells) r else none
def kZ(T:cX)(t:Nat)(parts:List (Nat×AV)):O:=
 match T.info t with
 |some i=>match i.desc with
  | .struct _=>.of ((de T t (i.zero.map .p) parts).map .agg)
  | .array _ e=>match T.info e with
   |some j=>.of ((oV j.size (i.zero.map .p) parts).map .agg)
   |none=>.bad
  |_=>.bad
 |none=>.bad
def AY(T:cX)(src dst:Nat)(x:AV):O:=
 match descOf T dst,x with
 |some (.int k),.p (.int _ n)=>match descOf T src with
  |some (.int _)=>⟨.p (.int k (k.wrap n)),true⟩
  |_=>.bad
 |some .string,.p (.str s)=>match descOf T src with
  |some .string=>⟨.p (.str s),true⟩
  |_=>.bad
 |_,_=>.bad
def sB(mx:Bool):List AV→Option AV
 |[.p (.int k a)]=>some (.p (.int k a))
 |[.p (.int k a),.p (.int _ b)]=>some (.p (.int k (if (if mx then b>a else b<a) then b else a)))
 |_=>none
def p5(k v:PV):List (PV×PV)→Option (List (PV×PV))
 |[]=>some [(k,v)]
 |(k',v')::r=>(Ij k k').bind fun b=>if b then some ((k,v)::r) else(p5 k v r).map ((k',v')::·)
def Le(k:PV):List (PV×PV)→Option (List (PV×PV))
 |[]=>some []
 |(k',v')::r=>(Ij k k').bind fun b=>if b then some r else(Le k r).map ((k',v')::·)
def nV(k:PV):List (PV×PV)→Option (Option PV)
 |[]=>some none
 |(k',v')::r=>(Ij k k').bind fun b=>if b then some (some v') else nV k r
def fT(T:cX)(t:Nat):Option (TypeDesc×TI):=
 match descOf T t with
 |some (.map k e)=>(descOf T k).bind fun kd=>(T.info e).map fun i=>(kd,i)
 |_=>none
def dK(d:TypeDesc)(k:PV):Bool:=
 match d,k with
 | .int k',.int k _=>decide (k=k')
 | .string,.str _=>true
 | .bool,.bool _=>true
 |_,_=>false
def da(d:TypeDesc)(es:List (PV×PV)):Bool:=es.all fun e=>dK d e.1
def iy(T:cX)(h:Hp)(t:Nat)(m k:AV)(c:Bool):O:=
 match m,k,fT T t with
 | .map id,.p k,some (kd,i)=>match h.at id with
  | .map es=>if dK kd k∧da kd es∧aO i.desc=false then
    match nV k es,i.zero with
    |some (some v),_=>⟨if c then .tup [.p v,.p (.bool true)] else .p v,true⟩
    |some none,[z]=>⟨if c then .tup [.p z,.p (.bool false)] else .p z,true⟩
    |_,_=>.bad
   else .bad
  |_=>.bad
 |_,_,_=>.bad
def gG(tm:Tm)(l:List Operand):List AV:=l.map fun x=>uv (aX tm x)
def ef(g:Bool)(tm:Tm)(l:List Operand):Bool:=l.all fun x=>uk g (aX tm x)
def cf(i:TI):PV:=match aO i.desc,i.zero with
 |true,z=>.agg z
 |false,[x]=>x
 |_,_=>.nils
def oU(sz:Nat):List PV→List (Nat×AV)→Option (List PV)
 |es,[]=>some es
 |es,(j,v)::r=>v.toP.bind fun x=>if j<es.length∧v.cells.length=sz∧v.cells.all AV.one=true then oU sz (es.set j x) r else none
def frozen:Nat:=999999
def sr(T:cX)(h:Hp)(tm:Tm)(op:Op):Option O:=
 let u:=fun x=>uv (aX tm x)
 match op with
 | .move x=>some ⟨u x,true⟩
 | .assign x=>some ⟨u x,true⟩
 | .pick c a b=>match u c with
  | .p (.bool b')=>some (sf b' (aX tm a) (aX tm b))
  |_=>none
 | .load t a=>some (ql T h t (u a))
 | .nilCheck x=>match u x with
  | .p (.ptr cs o)=>some ⟨.p (.ptr cs o),true⟩
  | .ref i o=>some ⟨.ref i o,true⟩
  | .elt i g n o=>some ⟨.elt i g n o,true⟩
  |_=>none
 | .binOp op t x y _=>match u x,u y with
  | .agg a,.agg b=>match descOf T t,op with
   |some (.struct fs),.eql=>some (.of ((cg T 0 fs.toList a b).map fun r=>.p (.bool r)))
   |some (.struct fs),.neq=>some (.of ((cg T 0 fs.toList a b).map fun r=>.p (.bool !r)))
   |_,_=>none
  |a,b=>match descOf T t with
   |some d=>some (dF d op a b)
   |_=>none
 | .unOp op _ x=>some (VO op (u x))
 | .convert s d x=>some (AY T s d (u x))
 | .makeFunc (.func f) first abY=>if first.size=0 then some ⟨.fn f (gG tm abY.toList),true⟩ else if abY.size=0 then(iF (gG tm first.toList)).map fun ps=>⟨.p (.fb f ps),true⟩ else none
 | .slice t x lo hi none=>some (eG T h t (u x) (lo.map u) (hi.map u))
 | .fieldAddr s x f=>some (uF T s (u x) f)
 | .field s x f=>some (D7 T s (u x) f)
 | .indexAddr t x i=>some (dm T h t (u x) (u i))
 | .index t x i=>some (ri T t (u x) (u i))
 | .build t parts=>some (kZ T t (parts.toList.map fun (i,x)=>(i,u x)))
 | .buildSlice t len parts=>(elemOf T t).bind fun e=>(oU e.size (List.replicate len (cf e)) (parts.toList.map fun (i,x)=>(i,u x))).map fun es=>
   ⟨.p (.sl es),decide (0<e.size∧len*e.size≤16777216∧(cf e).cells.length=e.size)⟩
 | .lookup t m k c=>some (iy T h t (u m) (u k) c)
 | .next x false=>match u x with
  | .it id=>match h.at id with
   | .map []=>some ⟨.tup [.p (.bool false)],true⟩
   |_=>none
  |_=>none
 | .extract t i=>match u t with
  | .tup vs=>some (.of vs[i]?)
  |_=>none
 | .call c=>match c.callee with
  | .builtin .len=>match gG tm c.args.toList,c.argTypes.toList with
   |[x],[t]=>match descOf T t,x with
    |some .string,.p (.str s)=>some ⟨.p (.int .i64 s.size),true⟩
    |some (.slice _),.p (.sl l)=>some ⟨.p (.int .i64 l.length),true⟩
    |some (.slice _),.p .nils=>some ⟨.p (.int .i64 0),true⟩
    |some (.slice _),.arr _ _ _ k=>some ⟨.p (.int .i64 k),true⟩
    |_,_=>none
   |_,_=>none
  | .builtin .max=>some (.of (sB true (gG tm c.args.toList)))
  | .builtin .min=>some (.of (sB false (gG tm c.args.toList)))
  |_=>none
 |_=>none
def gu(g:Bool)(tm:Tm):Op→Bool
 | .pick c _ _=>uk g (aX tm c)
 | .build _ parts=>ef g tm (parts.toList.map (·.2))
 | .buildSlice _ _ parts=>ef g tm (parts.toList.map (·.2))
 | .call c=>ef g tm ((match c.callee with| .value f=>[f]|_=>[])++c.args.toList)
 |op=>ef g tm op.operands.toList
structure A where
 build::
 mk:Nat→AV
 obj:Nat→Obj
 aux:List Obj
 ok:Bool
def dM(v:AV):List AV→Option (List AV)
 |[]=>none
 | .p .nils::r=>some (v::r)
 |x::r=>(dM v r).map (x::·)
def s_(own:Nat)(cs:List AV)(ok:Bool):A:=
 if own=0 then⟨fun id=>.ref id 0,fun _=>.box cs,[],ok⟩
 else⟨fun id=>.ref id 0,fun id=>.box ((dM (.arr (id+1) 0 0 0) cs).getD cs),[.arr 0 own false []],ok⟩
def lX:Operand→Bool
 | .const (.slice none 0 0)=>true
 |_=>false
def rM(h:Hp):AV→Option (List PV)
 | .p (.sl l)=>some l
 | .p .nils=>some []
 | .p .sle=>some []
 | .arr id g off len=>match h.at id with
  | .arr g' _ _ es=>if g=g'∧off+len≤es.length then some ((es.drop off).take len) else none
  |_=>none
 |_=>none
def pY(T:cX)(own:Nat)(h:Hp)(tm:Tm)(op:Op):Option A:=
 let u:=fun x=>uv (aX tm x)
 match op with
 | .assign x=>if own≠0∧lX x=true then some ⟨fun id=>.arr id 0 0 0,fun _=>.arr 0 own false [],[],true⟩ else none
 | .alloc t=>(T.info t).map fun i=>s_ own (i.zero.map .p) true
 | .box t x=>(T.info t).map fun i=>s_ own (u x).cells (decide ((u x).cells.length=i.size∧(u x).cells.all AV.one=true))
 | .build t parts=>if own=0 then none else
   match (kZ T t (parts.toList.map fun (i,x)=>(i,u x))).v with
   | .agg cs=>some ⟨fun id=>.agg ((dM (.arr id 0 0 0) cs).getD cs),fun _=>.arr 0 own false [],[],(kZ T t (parts.toList.map fun (i,x)=>(i,u x))).ok⟩
   |_=>none
 | .buildSlice t len parts=>if own=frozen then none else(elemOf T t).bind fun e=>(oU e.size (List.replicate len (cf e)) (parts.toList.map fun (i,x)=>(i,u x))).map fun es=>
   ⟨fun id=>.arr id 0 0 len,fun _=>.arr 0 e.size false es,[],decide (0<e.size∧len*e.size≤16777216∧(cf e).cells.length=e.size)⟩
 | .makeSlice t l c=>match u l,u c with
  | .p (.int _ n),.p (.int _ m)=>(elemOf T t).map fun e=>
    ⟨fun id=>.arr id 0 0 n.toNat,fun _=>.arr 0 e.size false (List.replicate n.toNat (cf e)),[],decide (0<e.size∧0≤n∧n≤m∧m≤1099511627776∧e.bytes*m≤1099511627776∧(cf e).cells.length=e.size)⟩
  |_,_=>none
 | .makeMap _ none=>some ⟨fun id=>.map id,fun _=>.map [],[],true⟩
 | .call c=>match c.callee with
  | .builtin .append=>match c.args.toList,c.argTypes.toList with
   |[s,x],[t,t']=>match u s,elemOf T t,elemOf T t' with
    | .p .nils,some e,some _=>(rM h (u x)).map fun xs=>
      ⟨fun id=>.arr id 0 0 xs.length,fun _=>.arr 0 e.size false xs,[],decide (0<e.size∧xs.length*e.bytes≤1099511627776∧xs.length≤1099511627776∧∀y∈xs,y.cells.length=e.size)⟩
    |_,_,_=>none
   |_,_=>none
  |_=>none
 |_=>none
def rV(cs:List PV)(off:Nat)(vs:List PV):List PV:=cs.take off++vs++cs.drop (off+vs.length)
def PV.setCells(x:PV)(off:Nat)(vs:List PV):Option PV:=
 match x with
 | .agg cs=>if off+vs.length≤cs.length then some (.agg (rV cs off vs)) else none
 |_=>match off,vs with
  |0,[y]=>some y
  |_,_=>none
def ni(T:cX)(h:Hp)(t:Nat)(a v:AV):Option Hp:=
 match T.info t with
 |none=>none
 |some i=>if v.cells.length=i.size∧v.cells.all AV.one=true then
  match a with
  | .ref id off=>match h.at id with
   | .box cs=>if off+i.size≤cs.length then some (h.set id (.box (splice cs off v.cells))) else none
   |_=>none
  | .elt id g j off=>match h.at id,cZ v.cells with
   | .arr g' sz false es,some ps=>if g=g'∧j<es.length then(es[j]?).bind fun x=>(x.setCells off ps).map fun y=>h.set id (.arr g' sz false (es.set j y)) else none
   |_,_=>none
  |_=>none
 else none
def ix(T:cX)(h:Hp)(t:Nat)(mp k v:AV):Option (Hp×AV):=
 match mp,k,v.toP,fT T t with
  | .map id,.p k,some v,some (kd,_)=>match h.at id with
   | .map es=>if dK kd k∧da kd es∧(AV.p v).one then(p5 k v es).map fun lA=>(h.set id (.map lA),.undef) else none
   |_=>none
  |_,_,_,_=>none
def wc(T:cX)(h:Hp)(tm:Tm)(op:Op):Option (Hp×AV):=
 let u:=fun x=>uv (aX tm x)
 match op with
 | .store t a v=>(ni T h t (u a) (u v)).map fun h'=>(h',.undef)
 | .mapUpdate t mp k v=>ix T h t (u mp) (u k) (u v)
 | .insert t mp k v=>ix T h t (u mp) (u k) (u v)
 | .range t x=>match u x,descOf T t with
  | .map id,some (.map _ _)=>match h.at id with
   | .map []=>some (h,.it id)
   |_=>none
  |_,_=>none
 | .call c=>match c.callee with
  | .builtin .delete=>match gG tm c.args.toList,c.argTypes.toList with
   |[.map id,.p k],t::_=>match h.at id,fT T t with
    | .map es,some (kd,_)=>if dK kd k∧da kd es then(Le k es).map fun lA=>(h.set id (.map lA),.tup []) else none
    |_,_=>none
   |_,_=>none
  | .builtin .append=>match gG tm c.args.toList,c.argTypes.toList with
   |[.arr id g off len,x],[t,t']=>match h.at id,elemOf T t,elemOf T t',rM h x with
    | .arr g' sz sh es,some e,some _,some xs=>
     if g=g'∧0<sz∧sz=e.size∧(len+xs.length)*e.bytes≤1099511627776∧len+xs.length≤1099511627776∧(∀y∈xs,y.cells.length=e.size) then
      if off+len=es.length then(if off=0∧xs.length=0 then some (h,.arr id g off len) else some (h.set id (.arr (g+xs.length+(if off=0 then 0 else 1)) sz sh (es.drop off++xs)),.arr id (g+xs.length+(if off=0 then 0 else 1)) 0 (len+xs.length)))
      else if off+len+xs.length≤es.length∧sh=false then some (h.set id (.arr g sz sh (es.take (off+len)++xs++es.drop (off+len+xs.length))),.arr id g off (len+xs.length))
      else none
     else none
    |_,_,_,_=>none
   |_,_=>none
  |_=>none
 |_=>none
def qI(k:Nat):AV→AV
 | .arr id g off len=>.arr (id+k) g off len
 | .p x=>.p x
 |_=>.undef
def qH(k:Nat):AV→AV
 | .agg cs=>.agg (cs.map (qI k))
 |v=>qI k v
def np(k:Nat):AV→AV
 | .tup vs=>.tup (vs.map (qH k))
 |v=>qH k v
def lC(h:Hp)(v:AV):AV:=
 match v with
 | .arr _ _ _ _=>match rM h v with
  |some l=>.p (.sl l)
  |none=>.undef
 |x=>x
def snap(h:Hp):AV→AV
 | .agg cs=>.agg (cs.map (lC h))
 |x=>lC h x
def iJ:AV→List Nat
 | .arr id _ _ _=>[id]
 | .agg cs=>cs.flatMap fun| .arr id _ _ _=>[id]|_=>[]
 |_=>[]
def cR:AV→Bool
 | .p (.int _ _)=>true
 | .p (.bool _)=>true
 | .p (.str _)=>true
 | .p .nils=>true
 |_=>false
def scalar:AV→Bool
 | .agg cs=>cs.all cR
 | .tup vs=>vs.all fun| .agg cs=>cs.all cR|x=>cR x
 |x=>cR x
def As:Obj→Obj
 | .arr g sz _ es=>.arr g sz true es
 |o=>o
def fh(ids:List Nat):Nat→Hp→Hp
 |_,[]=>[]
 |i,o::r=>(if ids.contains i=true then As o else o)::fh ids (i+1) r
def share(h:Hp)(ids:List Nat):Hp:=
 match ids with
 |[]=>h
 |ids=>fh ids 0 h
def lY:Obj→Bool
 | .arr _ _ _ _=>true
 |_=>false
abbrev ei:=Nat→List AV→Hp→Option (AV×Hp)
abbrev nN:=Nat→List AV→Hp→Option (Bool×Hp)
def mQ(tm:Tm)(x:Operand):Option (Nat×List AV):=
 match uv (aX tm x) with
 | .p (.fn f cs)=>some (f,cs.map PV.up)
 | .fn f cs=>some (f,cs)
 |_=>none
def dH(tm:Tm)(x:Operand)(as:List AV):Option (Nat×List AV):=
 match uv (aX tm x) with
 | .p (.fb f cs)=>some (f,cs.map PV.up++as)
 | .p (.fn f cs)=>some (f,as++cs.map PV.up)
 | .fn f cs=>some (f,as++cs)
 |_=>none
def yieldOf(tm:Tm)(x:Operand):Option Nat:=
 match uv (aX tm x) with
 | .yl id=>some id
 |_=>none
def vL:AV→List Nat
 | .ref id _=>[id]
 | .arr id _ _ _=>[id]
 | .elt id _ _ _=>[id]
 | .map id=>[id]
 |_=>[]
def rj:AV→List Nat
 | .agg cs=>cs.flatMap vL
 | .fn _ cs=>cs.flatMap vL
 |v=>vL v
def EB:Obj→List Nat
 | .box cs=>cs.flatMap rj
 |_=>[]
def jS:List Nat→List Nat→List Nat
 |W,[]=>W
 |W,x::r=>if W.contains x=true then jS W r else jS (W++[x]) r
def ke(h:Hp):Nat→Nat→List Nat→List Nat
 |0,_,W=>W
 |n+1,k,W=>match W[k]? with
  |none=>W
  |some id=>ke h n (k+1) (jS W (EB (h.at id)))
def reach(h:Hp)(as:List AV):List Nat:=ke h (h.length+1) 0 (jS [] (as.flatMap rj))
def eH{α β:Type}(f:α→Option β):List α→Option (List β)
 |[]=>some []
 |x::r=>aQ (f x) fun y=>aQ (eH f r) fun l=>some (y::l)
def idx:List Nat→Nat→Option Nat
 |[],_=>none
 |x::r,i=>if x=i then some 0 else(idx r i).map (·+1)
def jw(π:Nat→Option Nat):AV→Option AV
 | .p x=>some (.p x)
 | .glob g=>some (.glob g)
 | .undef=>some .undef
 | .ref id off=>(π id).map fun j=>.ref j off
 | .arr id g off len=>(π id).map fun j=>.arr j g off len
 | .elt id g i off=>(π id).map fun j=>.elt j g i off
 | .map id=>(π id).map fun j=>.map j
 |_=>none
def ir(π:Nat→Option Nat):AV→Option AV
 | .agg cs=>(eH (jw π) cs).map .agg
 | .fn f cs=>(eH (jw π) cs).map (.fn f)
 |v=>jw π v
def tU(π:Nat→Option Nat):AV→Option AV
 | .tup vs=>(eH (ir π) vs).map .tup
 |v=>ir π v
def iq(π:Nat→Option Nat):Obj→Option Obj
 | .box cs=>(eH (ir π) cs).map .box
 | .arr g sz sh es=>some (.arr g sz sh es)
 | .map es=>some (.map es)
 | .dead=>some .dead
 | .loop _ _ _ _=>none
def back(W:List Nat)(n:Nat)(j:Nat):Option Nat:=
 match W[j]? with
 |some id=>some id
 |none=>some (n+(j-W.length))
def eY:Hp→List Nat→List Obj→Hp
 |h,id::W,o::r=>eY (h.set id o) W r
 |h,_,_=>h
def fL:List Nat→Bool
 |[]=>true
 |x::r=> !r.contains x&&fL r
def gU:Obj→Bool
 | .box _=>true
 | .arr _ _ _ _=>true
 | .map _=>true
 |_=>false
def cJ(call:ei)(f:Nat)(as:List AV)(h:Hp):Option (AV×Hp):=
 aQ (rG (fL (reach h as)&&(reach h as).all fun i=>decide (i<h.length)&&gU (h.at i))) fun _=>
 aQ (eH (ir (idx (reach h as))) as) fun UZ=>
 aQ (eH (iq (idx (reach h as))) ((reach h as).map h.at)) fun h'=>
 aQ (call f UZ h') fun r=>
 aQ (rG (decide ((reach h as).length≤r.2.length∧(reach h as).length≤h.length)&&(r.2.take (reach h as).length).all gU)) fun _=>
 aQ (tU (back (reach h as) h.length) r.1) fun v=>
 aQ (eH (iq (back (reach h as) h.length)) r.2) fun h2=>
 some (v,eY h (reach h as) h2++h2.drop (reach h as).length)
def rf:AV→Bool
 | .yl _=>true
 | .fn _ cs=>cs.any fun| .yl _=>true|_=>false
 |_=>false
def s6(call:ei)(f:Nat)(as:List AV)(h:Hp):Option (AV×Hp):=
 if as.any rf=true then call f as h else cJ call f as h
structure X where
 T:cX
 call:ei
 yield:nN
 f:Nat
 nt:Nat
 fuel:Nat
 rnd:Bool
def guardOf(ops:List Oper)(tm:Tm):Option (Nat×Bool)→Option (Option Bool)
 |none=>some none
 |some (j,want)=>match (ops[j]?).bind (·.dst) with
  |none=>none
  |some d=>match look tm d with
   | .p (.bool b)=>some (some (b==want))
   | .gd c (.p (.bool b))=>some (some (c&&b==want))
   |_=>none
def m8:Option Bool→AV→AV
 |none,v=>v
 |some g,v=>.gd g v
def cF(nt:Nat):Option Nat→Bool
 |none=>true
 |some d=>decide (d<nt)
def dS(mu:Bool)(rd:Hp)(as:List AV):List AV:=if mu=true then as else as.map (snap rd)
def bO(mu:Bool)(as:List AV):List Nat:=if mu=true then [] else as.flatMap iJ
def Qi(x:X)(rd:Hp)(free:Bool)(g:Option Bool)(dst:Option Nat)(s:St)(f:Nat)(as:List AV):Option St:=
 let gb:=g.getD true
 let bs:=dS (x.T.muts f) rd as
 let ids:=bO (x.T.muts f) as
 if (cZ (bs.flatMap AV.cells)).isSome=true then
  kO (x.call f bs []) (fun r=>
    if r.2.length=0 then
     if scalar r.1=true∨x.T.fresh f=true then some ⟨bJ s.tm dst (m8 g r.1),s.hp⟩
     else if gb=true then
      if free=true∧ids≠[] then none
      else some ⟨bJ s.tm dst (m8 g r.1),share s.hp ids⟩
     else some ⟨bJ s.tm dst (.gd false .undef),s.hp⟩
    else if gb=true then
     if free=false∧r.2.all lY=true then some ⟨bJ s.tm dst (m8 g (np s.hp.length r.1)),share s.hp ids++r.2⟩
     else if free=false then aQ (s6 x.call f bs (share s.hp ids)) fun r=>some ⟨bJ s.tm dst (m8 g r.1),r.2⟩
     else if r.2.all lY=true∧ids=[] then some ⟨bJ s.tm dst (m8 g (np s.hp.length r.1)),s.hp++r.2⟩ else none
    else some ⟨bJ s.tm dst (.gd false .undef),s.hp⟩)
   (fun _=>if gb=true then none else some ⟨bJ s.tm dst (.gd false .undef),s.hp⟩)
 else if gb=true then
  if free=true then none else aQ (s6 x.call f bs (share s.hp ids)) fun r=>some ⟨bJ s.tm dst (m8 g r.1),r.2⟩
 else some ⟨bJ s.tm dst (.gd false .undef),s.hp⟩
def eJ:Op→Option (Operand×List Operand)
 | .call c=>match c.callee with
  | .value f=>some (f,c.args.toList)
  |_=>none
 |_=>none
def ly(T:cX)(f:Nat)(dst:Option Nat):Nat:=
 match dst with
 |some d=>T.own f d
 |none=>0
def sU(x:X)(free:Bool)(g:Option Bool)(dst:Option Nat)(s:St)(id:Nat)(as:List AV):Option St:=
 if g.getD true=true then
  if free=true then none else aQ (x.yield id as s.hp) fun r=>some ⟨bJ s.tm dst (m8 g (.p (.bool r.1))),r.2⟩
 else some ⟨bJ s.tm dst (.gd false .undef),s.hp⟩
def jP(x:X)(rd:Hp)(free:Bool)(g:Option Bool)(o:Oper)(s:St):Option St:=
 aQ (rG (cF x.nt o.dst)) fun _=>
 kO (pY x.T (ly x.T x.f o.dst) rd s.tm o.op)
  (fun a=>aQ (rG (!g.getD true||(a.ok&&gu (g.getD true) s.tm o.op))) fun _=>some ⟨bJ s.tm o.dst (m8 g (a.mk s.hp.length)),s.hp++a.obj s.hp.length::a.aux⟩) fun _=>
 kO (sr x.T rd s.tm o.op)
  (fun r=>aQ (rG (!g.getD true||(r.ok&&gu (g.getD true) s.tm o.op))) fun _=>some ⟨bJ s.tm o.dst (m8 g r.v),s.hp⟩) fun _=>
 aQ (rG (!g.getD true||gu (g.getD true) s.tm o.op)) fun _=>
 kO (eJ o.op)
  (fun c=>kO (yieldOf s.tm c.1) (fun id=>sU x free g o.dst s id (gG s.tm c.2)) fun _=>
    kO (dH s.tm c.1 (gG s.tm c.2)) (fun fc=>Qi x rd free g o.dst s fc.1 fc.2) fun _=>
     if g.getD true=true then none else some ⟨bJ s.tm o.dst (.gd false .undef),s.hp⟩) fun _=>
 if g.getD true=true then
  if free=true then none else aQ (wc x.T s.hp s.tm o.op) fun r=>some ⟨bJ s.tm o.dst (m8 g r.2),r.1⟩
 else some ⟨bJ s.tm o.dst (.gd false .undef),s.hp⟩
def du(e:Edge):Bool:=
 match e.ground with
 | .textOnly _=>false
 | .gcOnly _=>false
 |_=>true
def Ey:List Nat→List Nat→List Nat
 |[],l=>l
 |x::r,l=>if l.contains x=true then Ey r l else Ey r (x::l)
def B9:List (List Nat)→List Nat→List Nat
 |[],l=>l
 |x::r,l=>B9 r (Ey x l)
theorem tZ{i:Nat}:∀{a l:List Nat},i∈Ey a l→i∈a∨i∈l
 |[],l,h=>.inr h
 |x::r,l,h=>by
  unfold Ey at h
  split at h
  ·rcases tZ h with h|h
   ·exact .inl (List.mem_cons_of_mem _ h)
   ·exact .inr h
  ·rcases tZ h with h|h
   ·exact .inl (List.mem_cons_of_mem _ h)
   ·rcases List.mem_cons.1 h with h|h
    ·exact .inl (by rw[h];exact List.mem_cons_self ..)
    ·exact .inr h
theorem ve{i:Nat}:∀{a:List (List Nat)} {l:List Nat},i∈B9 a l→(∃x∈a,i∈x)∨i∈l
 |[],l,h=>.inr h
 |x::r,l,h=>by
  rcases ve (a:=r) h with⟨y,h1,h2⟩|h
  ·exact .inl ⟨y,List.mem_cons_of_mem _ h1,h2⟩
  ·rcases tZ h with h|h
   ·exact .inl ⟨x,List.mem_cons_self ..,h⟩
   ·exact .inr h
def wD(acc:List (List Nat))(o:Oper):List Nat:=B9 ((o.after.toList.filter du).map fun e=>e.on::(acc[e.on]?).getD []) []
theorem Ee{acc:List (List Nat)}{o:Oper}{i:Nat}(h:i∈wD acc o):i∈(o.after.toList.filter du).flatMap fun e=>e.on::(acc[e.on]?).getD []:=by
 rcases ve h with⟨x,h1,h2⟩|h
 ·obtain⟨e,h3,rfl⟩:=List.mem_map.1 h1
  exact List.mem_flatMap.2 ⟨e,h3,h2⟩
 ·cases h
def lf(acc:List (List Nat)):List Oper→List (List Nat)
 |[]=>acc
 |o::r=>lf (acc++[wD acc o]) r
def mU(ops:List Oper):List (List Nat):=lf [] ops
def uz(ops:List Oper)(o:Oper):List Nat:=
 match o.guard with
 |none=>[]
 |some (j,_)=>((ops[j]?).bind (·.dst)).toList
def slotsOf(l:List Operand):List Nat:=l.filterMap fun| .tmp t=>some t|_=>none
def pC(ops:List Oper)(o:Oper):List Nat:=slotsOf o.op.operands.toList++uz ops o
def jk(ops:List Oper)(a b:Oper):Bool:=
 (match a.dst with
  |none=>true
  |some d=> !(pC ops b).contains d&&(b.dst !=some d))&&
 (match b.dst with
  |none=>true
  |some d=> !(pC ops a).contains d)
def Pt(an:List (List Nat))(n j:Nat):Bool:=
 (List.range n).all fun i=>if i<j then((an[j]?).getD []).contains i else if j<i then((an[i]?).getD []).contains j else true
def k9:List Nat→Bool
 |[]=>true
 |d::r=> !r.contains d&&k9 r
def B7(an:List (List Nat)):List (Nat×List Nat×List Nat)→Bool
 |[]=>true
 |(k,_,l)::r=>(l.all fun i=>((an[k]?).getD []).contains i)&&(r.all fun e=>((an[e.1]?).getD []).contains k)&&B7 an r
def CF(ops:List Oper)(sq:List Nat)(lt:List (Nat×List Nat×List Nat)):Bool:=
 let an:=mU ops
 B7 an lt&&(k9 (ops.filterMap (·.dst))&&sq.all (Pt an ops.length))&&(List.range ops.length).all fun j=>match ops[j]? with
  |none=>false
  |some b=>
   ((b.after.toList.filter du).all fun e=>decide (e.on<j))&&
   (List.range j).all fun i=>match ops[i]? with
     |none=>false
     |some a=>((an[j]?).getD []).contains i||jk ops a b
def cO(T:cX)(f:Nat):Code→Bool
 | .region id ops draw=> !draw||CF ops.toList (T.seqs f id) (T.late f id)
 | .seq a b=>cO T f a&&cO T f b
 | .cond _ a b=>cO T f a&&cO T f b
 | .block _ c=>cO T f c
 | .loop c=>cO T f c
 | .scope c=>cO T f c
 | .rangeFunc _ _ a b=>cO T f a&&cO T f b
 |_=>true
def cS(T:cX)(f:Nat):Code→Nat→Prop
 | .seq a b,_=>cS T f a 0∧cS T f b 0
 | .cond _ a b,_=>cS T f a 0∧cS T f b 0
 | .block id c,_=>cS T f c id
 | .loop c,_=>cS T f c 0
 | .scope c,_=>cS T f c 0
 | .rangeFunc _ ps a b,id=>T.loops f id=some (ps.toList,a,b)∧cS T f a 0∧cS T f b 0
 |_,_=>True
def vz(x:X)(ops:List Oper):List Oper→St→Option St
 |[],s=>some s
 |o::r,s=>aQ (guardOf ops s.tm o.guard) fun g=>aQ (jP x s.hp false g o s) fun s'=>vz x ops r s'
def dY(tm:Tm)(op:Op):Option Nat:=
 match op with
 | .store _ a _=>match uv (aX tm a) with
  | .ref id _=>some id
  | .elt id _ _ _=>some id
  |_=>none
 | .call c=>match c.callee with
  | .builtin .append=>match gG tm c.args.toList with
   |[.arr id _ _ _,_]=>some id
   |_=>none
  |_=>none
 |_=>none
def iz:List (Nat×List Nat×List Nat)→Nat→Hp→Hp
 |[],_,rd=>rd
 |(_,W,an)::r,j,rd=>if an.contains j=true then iz r j rd else iz r j (eY rd W (W.map fun _=>.dead))
def lW:List (Nat×List Nat×List Nat)→Nat→Nat→Nat→Bool
 |[],_,_,_=>true
 |(_,W,an)::r,j,a,b=>(an.contains j||W.all fun wid=>decide (wid<a∨b≤wid))&&lW r j a b
def cQ:List (Nat×List Nat×List Nat)→Nat→Option (List Nat)
 |[],_=>none
 |(k,W,_)::r,j=>if j=k then some W else cQ r j
def mD(x:X)(W:List Nat)(g:Option Bool)(o:Oper)(s:St):Option St:=
 aQ (rG (cF x.nt o.dst)) fun _=>aQ (eJ o.op) fun c=>
 aQ (rG (gu true s.tm o.op)) fun _=>aQ (dH s.tm c.1 (gG s.tm c.2)) fun fc=>
 aQ (rG (decide (bO (x.T.muts fc.1) fc.2=[]∧reach s.hp (dS (x.T.muts fc.1) s.hp fc.2)=W))) fun _=>
 aQ (cJ x.call fc.1 (dS (x.T.muts fc.1) s.hp fc.2) s.hp) fun r=>
 aQ (rG (decide (r.2.length=s.hp.length))) fun _=>some ⟨bJ s.tm o.dst (m8 g r.1),r.2⟩
def oX(x:X)(W:List Nat)(g:Option Bool)(o:Oper)(s:St):Option St:=
 if g.getD true=true∧fL W=true∧(W.all fun i=>decide (i<s.hp.length))=true then
  match dY s.tm o.op with
  |some wid=>if W=[wid] then jP x s.hp false g o s else none
  |none=>mD x W g o s
 else none
def jf(x:X)(ops:List Oper)(sq:List Nat)(lt:List (Nat×List Nat×List Nat)):List Oper→Nat→Hp→St→Option St
 |[],_,_,s=>some s
 |o::r,j,rd,s=>aQ (guardOf ops s.tm o.guard) fun g=>
  if sq.contains j=true then aQ (jP x s.hp false g o s) fun s'=>jf x ops sq lt r (j+1) s'.hp s'
  else kO (cQ lt j) (fun wid=>aQ (oX x wid g o s) fun s'=>jf x ops sq lt r (j+1) rd s')
   fun _=>aQ (jP x (iz lt j s.hp) true g o s) fun s'=>aQ (rG (lW lt j s.hp.length s'.hp.length)) fun _=>jf x ops sq lt r (j+1) rd s'
def JM(x:X)(id:Nat)(ops:List Oper)(draw:Bool)(s:St):Option St:=
 if draw=true then jf x ops (x.T.seqs x.f id) (x.T.late x.f id) ops 0 s.hp s else vz x ops ops s
def db(m:Nat):AV→Bool
 | .p _=>true
 | .ref id _=>decide (id<m)
 | .arr id _ _ _=>decide (id<m)
 | .elt id _ _ _=>decide (id<m)
 | .yl id=>decide (id<m)
 | .map id=>decide (id<m)
 | .it id=>decide (id<m)
 |_=>false
def cA(m:Nat):AV→Bool
 | .agg cs=>cs.all (db m)
 | .fn _ cs=>cs.all (db m)
 |v=>db m v
def below(m:Nat):AV→Bool
 | .tup vs=>vs.all (cA m)
 | .gd _ v=>db m v
 |v=>cA m v
def eS(m:Nat):Obj→Obj
 | .box cs=>if cs.all (cA m)=true then .box cs else .dead
 |o=>o
def j_(f:AV→Option AV):List AV→Option (List AV)
 |[]=>some []
 |x::r=>aQ (f x) fun y=>aQ (j_ f r) fun l=>some (y::l)
def freeze(h:Hp)(m:Nat):Nat→AV→Option AV
 |0,_=>none
 |_+1,.p x=>some (.p x)
 |_+1,.arr id g off len=>if id<m then some (.arr id g off len) else(rM h (.arr id g off len)).map fun l=>.p (.sl l)
 |n+1,.ref id off=>if id<m then some (.ref id off) else match h.at id with
  | .box cs=>aQ (j_ (freeze h m n) cs) fun l=>(cZ l).map fun ps=>.p (.ptr ps off)
  |_=>none
 |n+1,.fn f cs=>aQ (j_ (freeze h m n) cs) fun l=>match iF l with
  |some ps=>some (.p (.fn f ps))
  |none=>some (.fn f l)
 |n+1,.agg cs=>aQ (j_ (freeze h m n) cs) fun l=>some (.agg l)
 |_+1,.map id=>if id<m then some (.map id) else none
 |_+1,_=>none
def uB(m:Nat):Option AV→AV
 |some v=>if below m v=true then v else .undef
 |none=>.undef
def iA(h:Hp)(m:Nat)(v:AV):AV:=if below m v then v else uB m (freeze h m 5 v)
def norm(ks:List Nat)(m:Nat)(s:St):St:=⟨ks.map fun k=>(k,iA s.hp m (look s.tm k)),(s.hp.take m).map (eS m)⟩
def alO(r:Option (Ex×St))(k:St→Option (Ex×St)):Option (Ex×St):=
 match r with
 |none=>none
 |some (.nor,s)=>k s
 |some (.exit id,s)=>some (.exit id,s)
 |some (.ret,s)=>some (.ret,s)
def pa(id:Nat)(r:Option (Ex×St)):Option (Ex×St):=
 match r with
 |some (.exit Cc,s)=>if Cc=id then some (.nor,s) else some (.exit Cc,s)
 |r=>r
theorem FJ(id:Nat):pa id none=none:=rfl
theorem Ir(id:Nat)(s:St):pa id (some (.nor,s))=some (.nor,s):=rfl
theorem Iq(id:Nat)(s:St):pa id (some (.ret,s))=some (.ret,s):=rfl
theorem FK(id Cc:Nat)(s:St):pa id (some (.exit Cc,s))=if Cc=id then some (.nor,s) else some (.exit Cc,s):=rfl
def BH(ks:List Nat)(m:Nat)(r:Option (Ex×St))(k:St→Option (Ex×St)):Option (Ex×St):=
 match r with
 |none=>none
 |some (.nor,s)=>k s
 |some (.exit id,s)=>some (.exit id,norm ks m s)
 |some (.ret,s)=>some (.ret,norm ks m s)
def nw:AV→Bool
 | .p .nils=>true
 |_=>false
def qo(t off sz:Nat)(s:St):St:=
 match look s.tm t with
 | .ref i o=>match s.hp.at i with
  | .box cs=>if nw (cs.getD (o+off) .undef)=true∧i<s.hp.length then⟨s.tm,(s.hp++[Obj.arr 0 sz false []]).set i (.box (cs.set (o+off) (.arr s.hp.length 0 0 0)))⟩ else s
  |_=>s
 |_=>s
def sR:List (Nat×Nat×Nat)→St→St
 |[],s=>s
 |(t,off,sz)::r,s=>sR r (qo t off sz s)
def iter(body:St→Option (Ex×St))(ks:List Nat)(m:Nat):Nat→St→Option (Ex×St)
 |0,_=>none
 |n+1,s=>BH ks m (body (norm ks m s)) fun s'=>iter body ks m n s'
def qJ(s:St)(o:Obj)(h:Hp):Option (Ex×St):=
 match o with
 | .loop .ready _ _ _=>some (.nor,⟨s.tm,h⟩)
 | .loop (.done e) _ _ _=>some (e,⟨s.tm,h⟩)
 |_=>none
def ia(x:X):Code→Nat→St→Option (Ex×St)
 | .skip,_,s=>some (.nor,s)
 | .label _,_,s=>some (.nor,s)
 | .region id ops draw,_,s=>aQ (JM x id ops.toList draw s) fun s'=>some (.nor,s')
 | .seq a b,_,s=>alO (ia x a 0 s) fun s'=>ia x b 0 s'
 | .cond c a b,_,s=>match aX s.tm c with
  | .p (.bool t)=>if t=true then ia x a 0 s else ia x b 0 s
  |_=>none
 | .block id c,_,s=>pa id (ia x c id s)
 | .loop c,id,s=>iter (ia x c 0) (x.T.keep x.f id) (sR (x.T.grow x.f id) s).hp.length x.fuel (sR (x.T.grow x.f id) s)
 | .scope c,_,s=>ia x c 0 s
 | .exit id,_,s=>some (.exit id,s)
 | .ret,_,s=>some (.ret,s)
 | .rangeFunc g _ _ _,id,s=>if x.rnd=false∧uk true (aX s.tm g)=true then aQ (mQ s.tm g) fun fc=>
   aQ (x.call fc.1 (dS (x.T.muts fc.1) s.hp (.yl s.hp.length::fc.2)) (share s.hp (bO (x.T.muts fc.1) fc.2)++[.loop .ready x.f id s.tm])) fun r=>
    qJ s (r.2.at s.hp.length) (r.2.set s.hp.length .dead)
  else none
 |_,_,_=>none
def outs(T:cX)(h:Hp)(tm:Tm):List ResultVar→Option (List AV)
 |[]=>some []
 | .tmp t::r=>aQ (outs T h tm r) fun l=>some (look tm t::l)
 | .cell a t::r=>if (ql T h t (look tm a)).ok=true then aQ (outs T h tm r) fun l=>some ((ql T h t (look tm a)).v::l) else none
def xp:List AV→AV
 |[v]=>v
 |vs=>.tup vs
def j7:PV→Bool
 | .int _ _=>true
 | .bool _=>true
 | .str _=>true
 | .nils=>true
 |_=>false
def jO(h:Hp)(m:Nat)(v:AV):Bool:=
 cR v||match v with
  | .arr id _ _ _=>decide (m≤id)&&match h.at id with
   | .arr _ _ _ es=>es.all fun y=>y.cells.all j7
   |_=>false
  |_=>false
def Hl(x:X)(m:Nat)(fn:Func)(s:St):Option (AV×Hp):=
 aQ (outs x.T s.hp s.tm fn.results.toList) fun vs=>
 aQ (rG (!x.T.fresh x.f||vs.all (jO s.hp m))) fun _=>
 if x.T.gives x.f=true then(if m≤s.hp.length∧x.T.fresh x.f=false then some (xp vs,s.hp) else none)
 else aQ (j_ (freeze s.hp m 5) vs) fun vs=>
  if vs.all (cA m)=true∧m≤s.hp.length then some (xp vs,(s.hp.take m).map (eS m)) else none
def fK:List AV→Nat→Tm
 |[],_=>[]
 |v::r,i=>(i,v)::fK r (i+1)
def azu(r:Option (Ex×St))(k:St→Option (AV×Hp)):Option (AV×Hp):=
 match r with
 |some (.nor,s)=>k s
 |some (.ret,s)=>k s
 |_=>none
def ns(tm:Tm):List Nat→List AV→Tm
 |p::ps,v::vs=>ns (put tm p v) ps vs
 |_,_=>tm
def gC(id:Nat)(e:Ex)(h:Hp):Option (Bool×Hp):=
 match h.at id with
 | .loop .busy f h_ tm=>match e with
  | .nor=>some (true,h.set id (.loop .ready f h_ tm))
  |e=>some (false,h.set id (.loop (.done e) f h_ tm))
 |_=>none
def kK(id:Nat)(h:Hp):Option Hp:=
 match h.at id with
 | .loop .ready f h_ tm=>some (h.set id (.loop .busy f h_ tm))
 |_=>none
def QK(r:Option (Ex×St))(k:Ex→St→Option (Bool×Hp)):Option (Bool×Hp):=
 match r with
 |none=>none
 |some (e,s)=>k e s
def round(x:X)(id:Nat)(as:List AV)(h:Hp)(tm:Tm)(l:List Nat×Code×Code):Option (Bool×Hp):=
 if as.length=l.1.length∧l.1.all (fun p=>decide (p<x.nt))=true then
  QK (ia x l.2.1 0 ⟨ns tm l.1 as,h⟩) fun e s=>
   match e with
   | .nor=>aQ (kK id s.hp) fun h2=>QK (ia x l.2.2 0 ⟨s.tm,h2⟩) fun e s2=>if h.length≤s2.hp.length then gC id e s2.hp else none
   |_=>none
 else none
def tC(T:cX)(fs:Nat→Option Func)(call:ei)(yield:nN)(fuel:Nat):nN:=fun id as h=>
 match h.at id with
 | .loop .ready f h_ tm=>aQ (T.loops f h_) fun l=>aQ (fs f) fun fn=>round ⟨T,call,yield,f,fn.ntmps,fuel,true⟩ id as h tm l
 |_=>none
def enter(T:cX)(call:ei)(yield:nN)(fuel:Nat)(f:Nat)(fn:Func)(args:List AV)(h:Hp):Option (AV×Hp):=
 match fn.body with
 |none=>none
 |some c=>
  if args.length≤fn.ntmps then
   azu (ia ⟨T,call,yield,f,fn.ntmps,fuel,false⟩ c 0 ⟨fK args 0,h⟩) (Hl ⟨T,call,yield,f,fn.ntmps,fuel,false⟩ h.length fn)
  else none
def mK:Hp→Option (List Nat)
 |[]=>some []
 | .arr 0 sz false []::r=>(mK r).map (sz::·)
 |_=>none
def sY:Option (AV×Hp)→Option (Nat×List Nat)
 |some (.arr id 0 0 0,h)=>(mK h).map fun l=>(id,l)
 |_=>none
def kT:List AV→Hp→Bool
 |[.p (.sl [])],[]=>true
 |_,_=>false
def CE:Option (AV×Hp)→Bool
 |some (.p .nils,[])=>true
 |some (.p (.sl []),[])=>true
 |_=>false
def wR(c:List AV→Option (AV×Hp)):Option (AV×Hp):=
 match sY (c [.p .nils]),sY (c [.p .sle]) with
 |some a,some b=>if a.1=b.1∧a.2=b.2 then some (.arr a.1 0 0 0,a.2.map fun sz=>.arr 0 sz false []) else none
 |_,_=>if CE (c [.p .nils])=true∧CE (c [.p .sle])=true then some (.p (.sl []),[]) else none
def sys(T:cX)(fs:Nat→Option Func)(pX:ei):Nat→ei×nN
 |0=>(fun _ _ _=>none,fun _ _ _=>none)
 |n+1=>(fun f args h=>kO (pX f args h) some fun _=>aQ (fs f) fun fn=>
   if T.split f=true∧kT args h=true then wR fun as=>enter T (sys T fs pX n).1 (sys T fs pX n).2 n f fn as []
   else enter T (sys T fs pX n).1 (sys T fs pX n).2 n f fn args h,
   tC T fs (sys T fs pX n).1 (sys T fs pX n).2 n)
def run(T:cX)(fs:Nat→Option Func)(pX:ei)(n:Nat):ei:=(sys T fs pX n).1
end Go.En
namespace Go.En
open Go.RowKit
def flat(es:List PV):List PV:=es.flatMap PV.cells
inductive Cn where
 |none
 |box (B:Nat)
 |arr (g B o cap sz:Nat)
 |nil (g:Nat)
 |map (r:Nat)
 |loop (r b:Nat)
def Cn.blk:Cn→Option Nat
 | .box B=>some B
 | .arr _ B _ _ _=>some B
 | .map r=>some r
 | .loop r _=>some r
 |_=>Option.none
def Cn.gen:Cn→Option Nat
 | .arr g _ _ _ _=>some g
 | .nil g=>some g
 |_=>Option.none
inductive bu(M:Addr→Option Value):PV→Value→Prop
 |int (k:IntKind) (n:Int):bu M (.int k n) (.int k n)
 |bool (b:Bool):bu M (.bool b) (.bool b)
 |str (s:ByteArray):bu M (.str s) (.string s)
 |agg (cs:List PV) (vs:Array Value):vs.size=cs.length→(∀k,k<cs.length→bu M (cs.getD k .nils) (vs.getD k undef))→bu M (.agg cs) (.agg vs)
 |nils:bu M .nils (.slice none 0 0)
 |sl0:bu M (.sl []) (.slice none 0 0)
 |slE (a:Addr) (cap:Nat):bu M (.sl []) (.slice (some a) 0 cap)
 |sle (a:Addr) (cap:Nat):bu M .sle (.slice (some a) 0 cap)
 |sl (es:List PV) (B o cap sz:Nat) (f:Nat→Value):es.length≤cap→(∀x∈es,x.cells.length=sz)→
   (∀k,k<(flat es).length→M ⟨B,o+k,none⟩=some (f k)∧(f k).oneCell'=true)→(∀k,k<(flat es).length→bu M ((flat es).getD k .nils) (f k))→
   bu M (.sl es) (.slice (some ⟨B,o,none⟩) es.length cap)
 |ptr (cs:List PV) (off B o:Nat) (f:Nat→Value):(∀k,k<cs.length→M ⟨B,o+k,none⟩=some (f k)∧(f k).oneCell'=true)→(∀k,k<cs.length→bu M (cs.getD k .nils) (f k))→
   bu M (.ptr cs off) (.pointer (some ⟨B,o+off,none⟩))
 |nilp:bu M .nilp (.pointer none)
 |fn (f:Nat) (cs:List PV) (vs:Array Value):vs.size=cs.length→(∀k,k<cs.length→bu M (cs.getD k .nils) (vs.getD k undef))→bu M (.fn f cs) (.func (.func f) #[] vs)
 |fb (f:Nat) (cs:List PV) (vs:Array Value):vs.size=cs.length→(∀k,k<cs.length→bu M (cs.getD k .nils) (vs.getD k undef))→bu M (.fb f cs) (.func (.func f) vs #[])
 |nilf:bu M .nilf .nilFunc
 |ifc (t:Nat) (x:PV) (v:Value):bu M x v→bu M (.ifc t x) (.iface t v)
 |nili:bu M .nili .nilIface
 |nilm:bu M .nilm (.map none)
structure ct where
 code:Nat→Nat→Option (List Nat×Code×Code)
 nt:Nat→Option Nat
 glob:Nat→Option (List PV)
structure Cx where
 M:Addr→Option Value
 μ:Nat→Cn
 K:Nat→Option Go.Obj
 I:Nat→Option (Nat×Nat)
 L:ct
def Cx.kp(C:Cx)(B:Nat)(o:Go.Obj):Prop:=C.K B=some o∨∃m c,C.I B=some (m,c)∧o=.mapIter (some m) c #[] c
inductive ar(C:Cx)(n:Nat):AV→Value→Prop
 |p (x:PV) (v:Value):bu C.M x v→ar C n (.p x) v
 |agg (cs:List AV) (vs:Array Value):vs.size=cs.length→(∀k,k<cs.length→ar C n (cs.getD k .undef) (vs.getD k undef))→ar C n (.agg cs) (.agg vs)
 |ref (id off B:Nat):id<n→C.μ id=.box B→ar C n (.ref id off) (.pointer (some ⟨B,off,none⟩))
 |arr (id g off len B o cap sz a:Nat):id<n→C.μ id=.arr g B o cap sz→off+len≤cap→(a=o+off*sz∨off=cap)→ar C n (.arr id g off len) (.slice (some ⟨B,a,none⟩) len (cap-off))
 |arrN (id g:Nat):id<n→C.μ id=.nil g→ar C n (.arr id g 0 0) (.slice none 0 0)
 |arrS (id g off len g':Nat) (a:Option Addr) (cap:Nat):id<n→(C.μ id).gen=some g'→g<g'→ar C n (.arr id g off len) (.slice a len cap)
 |elt (id g i off B o cap sz:Nat):id<n→C.μ id=.arr g B o cap sz→ar C n (.elt id g i off) (.pointer (some ⟨B,o+i*sz+off,none⟩))
 |eltS (id g i off g' B o:Nat):id<n→(C.μ id).gen=some g'→g<g'→ar C n (.elt id g i off) (.pointer (some ⟨B,o,none⟩))
 |fn (f:Nat) (cs:List AV) (vs:Array Value):vs.size=cs.length→(∀k,k<cs.length→ar C n (cs.getD k .undef) (vs.getD k undef))→ar C n (.fn f cs) (.func (.func f) #[] vs)
 |map (id r:Nat):id<n→C.μ id=.map r→ar C n (.map id) (.map (some r))
 |it (id r m c:Nat):id<n→C.μ id=.map m→C.I r=some (m,c)→ar C n (.it id) (.pointer (some ⟨r,0,none⟩))
 |yl (id r b:Nat):id<n→C.μ id=.loop r b→ar C n (.yl id) (.func (.yield r) #[] #[])
 |glob (g:Nat):ar C n (.glob g) (.pointer (some ⟨g,0,none⟩))
 |tup (vs:List AV) (xs:Array Value):xs.size=vs.length→(∀k,k<vs.length→ar C n (vs.getD k .undef) (xs.getD k undef))→ar C n (.tup vs) (.tuple xs)
 |gdT (v:AV) (x:Value):ar C n v x→ar C n (.gd true v) x
 |gdF (v:AV):ar C n (.gd false v) undef
 |undef (v:Value):ar C n .undef v
theorem bu.mono{M M':Addr→Option Value}(h:∀a v,M a=some v→M' a=some v){x:PV}{v:Value}(r:bu M x v):bu M' x v:=by
 induction r with
 |int k n=>exact .int k n
 |bool b=>exact .bool b
 |str s=>exact .str s
 |agg cs vs h1 _ ih=>exact .agg cs vs h1 ih
 |nils=>exact .nils
 |sl0=>exact .sl0
 |slE a cap=>exact .slE a cap
 |sle a cap=>exact .sle a cap
 |sl es B o cap sz f h1 h2 h3 _ ih=>exact .sl es B o cap sz f h1 h2 (fun k hk=>⟨h _ _ (h3 k hk).1,(h3 k hk).2⟩) ih
 |ptr cs off B o f h1 _ ih=>exact .ptr cs off B o f (fun k hk=>⟨h _ _ (h1 k hk).1,(h1 k hk).2⟩) ih
 |nilp=>exact .nilp
 |fn f cs vs h1 _ ih=>exact .fn f cs vs h1 ih
 |fb f cs vs h1 _ ih=>exact .fb f cs vs h1 ih
 |nilf=>exact .nilf
 |ifc t x v _ ih=>exact .ifc t x v ih
 |nili=>exact .nili
 |nilm=>exact .nilm
structure Ext(n:Nat)(C C':Cx):Prop where
 M:∀a v,C.M a=some v→C'.M a=some v
 K:∀B o,C.K B=some o→C'.K B=some o
 I:∀B o,C.I B=some o→C'.I B=some o
 L:C'.L=C.L
 μ:∀id,id<n→C'.μ id=C.μ id∨(∃g g',(C.μ id).gen=some g∧(C'.μ id).gen=some g'∧g<g')∨C.μ id=.none
theorem Ext.refl(n:Nat)(C:Cx):Ext n C C:=⟨fun _ _ h=>h,fun _ _ h=>h,fun _ _ h=>h,rfl,fun _ _=>.inl rfl⟩
theorem Ext.trans{n:Nat}{A B C:Cx}(h:Ext n A B)(k:Ext n B C):Ext n A C:=by
 refine⟨fun a v e=>k.M a v (h.M a v e),fun B o e=>k.K B o (h.K B o e),fun B o e=>k.I B o (h.I B o e),k.L.trans h.L,fun id aH=> ?_⟩
 rcases h.μ id aH with e|⟨g,g',e1,e2,e3⟩|e<;>rcases k.μ id aH with f|⟨j,j',f1,f2,f3⟩|f
 ·exact .inl (f.trans e)
 ·exact .inr (.inl ⟨j,j',by rw[←e];exact f1,f2,f3⟩)
 ·exact .inr (.inr (by rw[←e];exact f))
 ·exact .inr (.inl ⟨g,g',e1,by rw[f];exact e2,e3⟩)
 ·refine .inr (.inl ⟨g,j',e1,f2, ?_⟩)
  rw[e2] at f1;cases f1;omega
 ·rw[f] at e2;cases e2
 ·exact .inr (.inr e)
 ·exact .inr (.inr e)
 ·exact .inr (.inr e)
theorem Ext.le{n m:Nat}{C C':Cx}(h:Ext n C C')(hm:m≤n):Ext m C C':=⟨h.M,h.K,h.I,h.L,fun id aH=>h.μ id (by omega)⟩
theorem ar.mono{n n':Nat}{C C':Cx}(h:Ext n C C')(hn:n≤n'){x:AV}{v:Value}(r:ar C n x v):ar C' n' x v:=by
 induction r with
 |p x v hr=>exact .p x v (hr.mono h.M)
 |agg cs vs h1 _ ih=>exact .agg cs vs h1 ih
 |ref id off B h1 h2=>
  rcases h.μ id h1 with e|⟨g,g',e1,e2,e3⟩|e0
  ·exact .ref id off B (by omega) (by rw[e];exact h2)
  ·rw[h2] at e1;cases e1
  ·rw[e0] at h2;cases h2
 |arr id g off len B o cap sz a h1 h2 h3 h4=>
  rcases h.μ id h1 with e|⟨g1,g',e1,e2,e3⟩|e0
  ·exact .arr id g off len B o cap sz a (by omega) (by rw[e];exact h2) h3 h4
  ·rw[h2] at e1;simp[Cn.gen] at e1;exact .arrS id g off len g' _ _ (by omega) e2 (by omega)
  ·rw[e0] at h2;cases h2
 |arrN id g h1 h2=>
  rcases h.μ id h1 with e|⟨g1,g',e1,e2,e3⟩|e0
  ·exact .arrN id g (by omega) (by rw[e];exact h2)
  ·rw[h2] at e1;simp[Cn.gen] at e1;exact .arrS id g 0 0 g' _ _ (by omega) e2 (by omega)
  ·rw[e0] at h2;cases h2
 |arrS id g off len g' a cap h1 h2 h3=>
  rcases h.μ id h1 with e|⟨g1,g2,e1,e2,e3⟩|e0
  ·exact .arrS id g off len g' a cap (by omega) (by rw[e];exact h2) h3
  ·rw[h2] at e1;cases e1;exact .arrS id g off len g2 a cap (by omega) e2 (by omega)
  ·rw[e0] at h2;cases h2
 |elt id g i off B o cap sz h1 h2=>
  rcases h.μ id h1 with e|⟨g1,g',e1,e2,e3⟩|e0
  ·exact .elt id g i off B o cap sz (by omega) (by rw[e];exact h2)
  ·rw[h2] at e1;simp[Cn.gen] at e1;exact .eltS id g i off g' _ _ (by omega) e2 (by omega)
  ·rw[e0] at h2;cases h2
 |eltS id g i off g' B o h1 h2 h3=>
  rcases h.μ id h1 with e|⟨g1,g2,e1,e2,e3⟩|e0
  ·exact .eltS id g i off g' B o (by omega) (by rw[e];exact h2) h3
  ·rw[h2] at e1;cases e1;exact .eltS id g i off g2 B o (by omega) e2 (by omega)
  ·rw[e0] at h2;cases h2
 |fn f cs vs h1 _ ih=>exact .fn f cs vs h1 ih
 |map id r h1 h2=>
  rcases h.μ id h1 with e|⟨g1,g',e1,e2,e3⟩|e0
  ·exact .map id r (by omega) (by rw[e];exact h2)
  ·rw[h2] at e1;cases e1
  ·rw[e0] at h2;cases h2
 |it id r m c h1 h2 h3=>
  rcases h.μ id h1 with e|⟨g1,g',e1,e2,e3⟩|e0
  ·exact .it id r m c (by omega) (by rw[e];exact h2) (h.I _ _ h3)
  ·rw[h2] at e1;cases e1
  ·rw[e0] at h2;cases h2
 |yl id r b h1 h2=>
  rcases h.μ id h1 with e|⟨g1,g',e1,e2,e3⟩|e0
  ·exact .yl id r b (by omega) (by rw[e];exact h2)
  ·rw[h2] at e1;cases e1
  ·rw[e0] at h2;cases h2
 |glob g=>exact .glob g
 |tup vs xs h1 _ ih=>exact .tup vs xs h1 ih
 |gdT v x _ ih=>exact .gdT v x ih
 |gdF v=>exact .gdF v
 |undef v=>exact .undef v
def exitCode:Ex→Option Code
 | .nor=>none
 | .exit id=>some (.exit id)
 | .ret=>some .ret
def LS.rep:LS→LoopState×Option Code→Prop
 | .ready,p=>p=(.ready,none)
 | .busy,p=>p=(.busy,none)
 | .done e,p=>p=(.done,exitCode e)
def azV(C:Cx)(b:Nat)(w:World)(r:Nat)(st:LS)(f h_:Nat)(tm:Tm):Prop:=
 ∃L:Loop,w.heap[r]? =some (.loop L)∧LS.rep st (L.state,L.pending)∧C.L.code f h_=some (L.params.toList,L.assign,L.body)∧C.L.nt f=some L.tmps.size∧
  ∀i,ar C b (look tm i) (L.tmps.getD i Go.undef)
def kn(C:Cx)(n:Nat)(w:World):Cn→Obj→Prop
 |_,.dead=>True
 | .none,_=>True
 | .box B,.box cs=>∃c T,w.heap[B]? =some (.cells c T (0,0))∧c.size=cs.length∧cs.all AV.one=true∧∀k,k<cs.length→ar C n (cs.getD k .undef) (c.getD k Go.undef)
 | .arr g B o cap sz,.arr g' i4 _ es=>g=g'∧sz=i4∧0<sz∧es.length≤cap∧(∀x∈es,x.cells.length=sz)∧
   ∃c T,w.heap[B]? =some (.cells c T (0,0))∧o+cap*sz≤c.size∧∀k,k<(flat es).length→bu C.M ((flat es).getD k .nils) (c.getD (o+k) Go.undef)∧(c.getD (o+k) Go.undef).oneCell'=true
 | .nil g,.arr g' _ _ es=>g=g'∧es=[]
 | .map r,.map es=>∃(en:Array MapEntry) (clock:Nat),w.heap[r]? =some (.map en clock)∧en.size=es.length∧
   ∀(k:Nat) (e:MapEntry),en[k]? =some e→∃p:PV×PV,es[k]? =some p∧bu C.M p.1 e.key∧bu C.M p.2 e.val
 | .loop r b,.loop st f h_ tm=>b≤n∧azV C b w r st f h_ tm
 |_,_=>False
theorem kn.mono{C C':Cx}{n n':Nat}{w w':World}{c:Cn}{o:Obj}(h:Ext n C C')(hn:n≤n')(hw:∀B,c.blk=some B→w'.heap[B]? =w.heap[B]?)
  (r:kn C n w c o):kn C' n' w' c o:=by
 match c,o,r,hw with
 | .box B,.box cs,r,hw=>
  obtain⟨c,T,h1,h2,p_,h3⟩:=r
  exact⟨c,T,by rw[hw _ rfl];exact h1,h2,p_,fun k hk=>(h3 k hk).mono h hn⟩
 | .arr g B o cap sz,.arr g' i4 sh es,r,hw=>
  obtain⟨h1,h2,h3,h4,h5,c,T,h6,h7,h8⟩:=r
  exact⟨h1,h2,h3,h4,h5,c,T,by rw[hw _ rfl];exact h6,h7,fun k hk=>⟨(h8 k hk).1.mono h.M,(h8 k hk).2⟩⟩
 | .nil g,.arr g' i4 sh es,r,_=>exact r
 | .map m,.map es,r,hw=>
  obtain⟨en,cl,h1,h2,h3⟩:=r
  refine⟨en,cl,by rw[hw _ rfl];exact h1,h2,fun k e hk=> ?_⟩
  obtain⟨p,hp,h4,h5⟩:=h3 k e hk
  exact⟨p,hp,h4.mono h.M,h5.mono h.M⟩
 | .loop r b,.loop st f h_ tm,rr,hw=>
  obtain⟨h0,L,h1,h2,h4,h5,h6⟩:=rr
  exact⟨by omega,L,by rw[hw _ rfl];exact h1,h2,by rw[h.L];exact h4,by rw[h.L];exact h5,fun i=>(h6 i).mono (h.le h0) (Nat.le_refl _)⟩
 | .none,.dead,_,_=>exact trivial
 | .none,.loop _ _ _ _,_,_=>exact trivial
 | .loop _ _,.dead,_,_=>exact trivial
 | .none,.box _,_,_=>exact trivial
 | .none,.arr _ _ _ _,_,_=>exact trivial
 | .none,.map _,_,_=>exact trivial
 | .box _,.dead,_,_=>exact trivial
 | .arr _ _ _ _ _,.dead,_,_=>exact trivial
 | .nil _,.dead,_,_=>exact trivial
 | .map _,.dead,_,_=>exact trivial
 | .box _,.arr _ _ _ _,r,_=>exact r.elim
 | .box _,.map _,r,_=>exact r.elim
 | .arr _ _ _ _ _,.box _,r,_=>exact r.elim
 | .arr _ _ _ _ _,.map _,r,_=>exact r.elim
 | .nil _,.box _,r,_=>exact r.elim
 | .nil _,.map _,r,_=>exact r.elim
 | .map _,.box _,r,_=>exact r.elim
 | .map _,.arr _ _ _ _,r,_=>exact r.elim
 | .map _,.loop _ _ _ _,r,_=>exact r.elim
 | .box _,.loop _ _ _ _,r,_=>exact r.elim
 | .arr _ _ _ _ _,.loop _ _ _ _,r,_=>exact r.elim
 | .nil _,.loop _ _ _ _,r,_=>exact r.elim
 | .loop _ _,.box _,r,_=>exact r.elim
 | .loop _ _,.arr _ _ _ _,r,_=>exact r.elim
 | .loop _ _,.map _,r,_=>exact r.elim
structure e_ where
 w0:World
 S:Nat→Prop
 M0:Addr→Option Value
structure Fr(w0:World)(S:Nat→Prop)(w:World):Prop where
 os:w.os=w0.os
 tape:w.tape=w0.tape
 output:w.output=w0.output
 size:w0.heap.size≤w.heap.size
 block:∀k,k<w0.heap.size→¬S k→w.heap[k]? =w0.heap[k]?
def zi(C:Cx):Prop:=∀g cs,C.L.glob g=some cs→∃f:Nat→Value,∀k,k<cs.length→(C.M ⟨g,k,none⟩=some (f k)∧(f k).oneCell'=true)∧bu C.M (cs.getD k .nils) (f k)
theorem zi.mono{C C':Cx}(h:zi C)(hM:∀a v,C.M a=some v→C'.M a=some v)(hL:C'.L=C.L):zi C':=fun g cs e=>by
 obtain⟨f,hf⟩:=h g cs (by rw[←hL];exact e)
 exact⟨f,fun k hk=>⟨⟨hM _ _ (hf k hk).1.1,(hf k hk).1.2⟩,(hf k hk).2.mono hM⟩⟩
structure Mem(F:e_)(C:Cx)(h:Hp)(w:World):Prop where
 objs:∀id,id<h.length→kn C h.length w (C.μ id) (h.at id)
 prot:∀a v,C.M a=some v→w.cell? a=some v
 src:∀a v,C.M a=some v→F.w0.heap.size≤a.block∨F.S a.block∨F.M0 a=some v
 sep:∀id B,id<h.length→(C.μ id).blk=some B→∀a v,C.M a=some v→a.block=B→
  ∃g o cap sz es,C.μ id=.arr g B o cap sz∧h.at id=.arr g sz true es∧a.off<o+es.length*sz
 inj:∀i j B,i<h.length→j<h.length→(C.μ i).blk=some B→(C.μ j).blk=some B→i=j
 lt:∀id B,id<h.length→(C.μ id).blk=some B→B<w.heap.size∧(F.S B∨F.w0.heap.size≤B)
 kept:∀B o,C.kp B o→w.heap[B]? =some o
 ksep:∀B o,C.kp B o→∀id,id<h.length→(C.μ id).blk≠some B
 bnd:∀id r b,id<h.length→C.μ id=.loop r b→b≤id
 fr:Fr F.w0 F.S w
 gl:zi C
end Go.En
namespace Go.En
open Go.RowKit
structure cX.Ok(T:cX)(P:Program):Prop where
 info:∀t i,T.info t=some i→P.underlying t=some i.desc∧∃inf z,P.info? t=some inf∧inf.size=i.size∧inf.bytes=i.bytes∧inf.zero=some z∧
  z.cells.size=i.size∧i.zero.length=i.size∧(∀k,k<i.zero.length→bu (fun _=>none) (i.zero.getD k .nils) (z.cells.getD k Go.undef)∧(AV.p (i.zero.getD k .nils)).one=true)∧
  (aO i.desc=true→z=.agg z.cells)∧(aO i.desc=false→i.size=1∧z.cells= #[z])
 fields:∀t i fs,T.info t=some i→i.desc=.struct fs→(∀f∈fs.toList,(P.info? f.type).isSome=true)∧P.stoodInHeld t=false
section
variable {P:Program} {T:cX} {F:e_} {w:World} {C:Cx} {h rd:Hp} {n:Nat}
theorem xt{v:Value}{x:AV}(hx:gP v=some x):ar C n x v:=by
 unfold gP at hx
 split at hx<;>cases hx<;>first
  |exact .p _ _ (.int _ _)
  |exact .p _ _ (.bool _)
  |exact .p _ _ (.str _)
  |exact .p _ _ .nils
  |exact .p _ _ .nilp
  |exact .p _ _ .nilf
  |exact .p _ _ .nili
  |exact .p _ _ .nilm
theorem xr:∀{l:List Value} {xs:List AV},lU l=some xs→xs.length=l.length∧∀k,k<xs.length→ar C n (xs.getD k .undef) (l.getD k Go.undef)
 |[],xs,hx=>by simp[lU] at hx;subst hx;simp
 |v::r,xs,hx=>by
  simp only[lU,Option.bind_eq_some_iff,Option.map_eq_some_iff] at hx
  obtain⟨x,h1,ys,h2,rfl⟩:=hx
  obtain⟨h3,h4⟩:=xr h2
  refine⟨by simp[h3],fun k hk=> ?_⟩
  cases k with
  |zero=>exact xt h1
  |succ k=>simpa using h4 k (by simpa using hk)
theorem K8(v:Value):ar C n (Jj v) v:=by
 unfold Jj
 split
 ·rename_i cs
  cases e:lU cs.toList with
  |none=>exact .undef _
  |some xs=>
   obtain⟨h1,h2⟩:=xr (C:=C) (n:=n) e
   exact .agg xs cs (by simpa using h1.symm) (fun k hk=>by have:=h2 k hk;simpa using this)
 ·cases e:gP _ with
  |none=>exact .undef _
  |some x=>exact xt e
theorem wz{tm:Tm}{a:Act}(ht:∀i,ar C n (look tm i) (a.tmps.getD i Go.undef))(x:Operand):ar C n (aX tm x) (a.eval x):=by
 cases x with
 |tmp t=>exact ht t
 |const v=>exact K8 v
 |global g=>exact .glob _
 |func f=>exact .p _ _ (.fn f [] #[] rfl (by simp))
theorem GL{x:AV}{v:Value}(hr:ar C n x v)(hk:uk true x=true):ar C n (uv x) v:=by
 cases x with
 |gd b y=>
  simp[uk] at hk
  subst hk
  cases hr with
  |gdT _ _ h=>exact h
 |_=>exact hr
theorem j9{tm:Tm}{a:Act}(ht:∀i,ar C n (look tm i) (a.tmps.getD i Go.undef)){x:Operand}(hk:uk true (aX tm x)=true):ar C n (uv (aX tm x)) (a.eval x):=
 GL (wz ht x) hk
theorem cn{x:PV}{v:Value}(hr:ar C n (.p x) v):bu C.M x v:=by cases hr with|p _ _ h=>exact h
theorem c9{k:IntKind}{i:Int}{v:Value}(hr:ar C n (.p (.int k i)) v):v=.int k i:=by cases cn hr with|int=>rfl
theorem fN{b:Bool}{v:Value}(hr:ar C n (.p (.bool b)) v):v=.bool b:=by cases cn hr with|bool=>rfl
theorem j0{s:ByteArray}{v:Value}(hr:ar C n (.p (.str s)) v):v=.string s:=by cases cn hr with|str=>rfl
theorem kQ(k:IntKind)(i:Int):ar C n (.p (.int k i)) (.int k i):=.p _ _ (.int k i)
theorem i9(b:Bool):ar C n (.p (.bool b)) (.bool b):=.p _ _ (.bool b)
theorem bK{es:List PV}{sz:Nat}(hu:∀x∈es,x.cells.length=sz):(flat es).length=es.length*sz:=by
 induction es with
 |nil=>simp[flat]
 |cons x es ih=>
  have h1:=hu x (by simp)
  have h2:=ih (fun y hy=>hu y (by simp[hy]))
  simp only[flat,List.flatMap_cons,List.length_append,List.length_cons] at h2 ⊢
  rw[h1,h2,Nat.succ_mul];omega
theorem iC{es:List PV}{sz:Nat}(hu:∀x∈es,x.cells.length=sz){i j:Nat}(hi:i<es.length)(hj:j<sz):
  (flat es).getD (i*sz+j) .nils=((es.getD i .nils).cells).getD j .nils:=by
 induction es generalizing i with
 |nil=>simp at hi
 |cons x es ih=>
  have h1:=hu x (by simp)
  have h2:=fun y hy=>hu y (List.mem_cons_of_mem x hy)
  cases i with
  |zero=>
   simp only[flat,List.flatMap_cons,Nat.zero_mul,Nat.zero_add,List.getD_eq_getElem?_getD]
   rw[List.getElem?_append_left (by omega)]
   simp
  |succ i=>
   have h3:=ih h2 (i:=i) (by simpa using hi)
   simp only[flat,List.flatMap_cons,List.getD_eq_getElem?_getD,Nat.succ_mul] at h3 ⊢
   rw[List.getElem?_append_right (by omega)]
   rw[show i*sz+sz+j-x.cells.length=i*sz+j from by omega]
   rw[h3];simp
theorem i_{cs:List PV}{k:Nat}(hk:k<cs.length):(cs.map AV.p).getD k .undef=.p (cs.getD k .nils):=by
 simp[List.getD_eq_getElem?_getD,hk]
theorem cH{w:World}{B:Nat}{c:Array Value}{T:TypeId}{fr:Nat×Nat}(hb:w.heap[B]? =some (.cells c T fr))(o:Nat):w.cell? ⟨B,o,none⟩=c[o]? :=by
 simp[World.cell?,hb]
theorem getD_some{c:Array Value}{o:Nat}(ho:o<c.size):c[o]? =some (c.getD o Go.undef):=by
 simp[Array.getD_eq_getD_getElem?,ho]
theorem FC(hm:Mem F C h w)(jM:∀id,rd.at id≠ .dead→h.at id=rd.at id){x:AV}{v:Value}{cs:List AV}{off:Nat}(hc:iE rd x=some (cs,off))(hr:ar C h.length x v):
  ∃B o,v=.pointer (some ⟨B,o+off,none⟩)∧∀k,k<cs.length→∃u,w.cell? ⟨B,o+k,none⟩=some u∧ar C h.length (cs.getD k .undef) u:=by
 unfold iE at hc
 split at hc
 ·rename_i rQ abI
  simp at hc;obtain⟨rfl,rfl⟩:=hc
  cases cn hr with
  |ptr _ _ B o f h1 h2=>
   refine⟨B,o,rfl,fun k hk=> ?_⟩
   have bT:k<rQ.length:=by simpa using hk
   exact⟨f k,hm.prot _ _ (h1 k bT).1,by rw[i_ bT];exact .p _ _ (h2 k bT)⟩
 ·rename_i id abI
  split at hc
  ·rename_i rQ e
   simp at hc;obtain⟨rfl,rfl⟩:=hc
   cases hr with
   |ref _ _ B h1 h2=>
    have ho:=hm.objs id h1
    rw[jM id (by rw[e];simp),e,h2] at ho
    obtain⟨c,T',h3,h4,_,h5⟩:=ho
    refine⟨B,0,by simp,fun k hk=> ?_⟩
    rw[cH h3]
    exact⟨_,getD_some (by omega),by simpa using h5 k hk⟩
  ·cases hc
 ·rename_i id g i abI
  split at hc
  ·rename_i g' sz sh es e
   split at hc
   ·rename_i hg
    subst hg
    cases ex:es[i]? with
    |none=>rw[ex] at hc;cases hc
    |some x=>
     rw[ex] at hc;simp at hc;obtain⟨rfl,rfl⟩:=hc
     have hi:i<es.length:=(List.getElem?_eq_some_iff.1 ex).1
     have nS:h.at id=.arr g sz sh es:=by rw[jM id (by rw[e];simp),e]
     cases hr with
     |elt _ _ _ _ B o cap i4 h1 h2=>
      have ho:=hm.objs id h1
      rw[nS,h2] at ho
      obtain⟨_,rfl,gK,h3,h4,c,T',h5,h6,h7⟩:=ho
      have hx:x.cells.length=i4:=h4 x (List.mem_of_getElem? ex)
      refine⟨B,o+i*i4,by simp,fun k hk=> ?_⟩
      have bT:k<x.cells.length:=by simpa using hk
      have zF:=bK h4
      have JE:i*i4+k<es.length*i4:=by
       have:(i+1)*i4≤es.length*i4:=Nat.mul_le_mul_right _ hi
       rw[Nat.succ_mul] at this;omega
      have EV:es.length*i4≤cap*i4:=Nat.mul_le_mul_right _ h3
      rw[cH h5]
      refine⟨_,getD_some (by omega), ?_⟩
      rw[i_ bT]
      have h8:=(h7 (i*i4+k) (by omega)).1
      rw[iC h4 hi (by omega)] at h8
      have:es.getD i .nils=x:=by simp[List.getD_eq_getElem?_getD,ex]
      rw[this] at h8
      refine .p _ _ ?_
      rw[show o+i*i4+k=o+(i*i4+k) from by omega]
      exact h8
     |eltS _ _ _ _ g' _ _ h1 h2 h3=>
      have ho:=hm.objs id h1
      rw[nS] at ho
      cases hc:C.μ id<;>rw[hc] at ho h2<;>simp[Cn.gen] at h2
      ·obtain⟨h4,_⟩:=ho;omega
      ·obtain⟨h4,_⟩:=ho;omega
   ·cases hc
  ·cases hc
 ·cases hc
theorem yL{T:cX}(hG:∀g cs,T.glob g=some cs→C.L.glob g=some cs)(hm:Mem F C h w)(jM:∀id,rd.at id≠ .dead→h.at id=rd.at id){x:AV}{v:Value}{cs:List AV}{off:Nat}(hc:o9 T rd x=some (cs,off))(hr:ar C h.length x v):
  ∃B o,v=.pointer (some ⟨B,o+off,none⟩)∧∀k,k<cs.length→∃u,w.cell? ⟨B,o+k,none⟩=some u∧ar C h.length (cs.getD k .undef) u:=by
 unfold o9 at hc
 split at hc
 ·rename_i g
  simp only[Option.map_eq_some_iff,Prod.mk.injEq] at hc
  obtain⟨ps,h1,rfl,rfl⟩:=hc
  obtain⟨f,hf⟩:=hm.gl g ps (hG _ _ h1)
  cases hr with
  |glob _=>
   refine⟨g,0,rfl,fun k hk=> ?_⟩
   have bT:k<ps.length:=by simpa using hk
   exact⟨f k,by rw[Nat.zero_add];exact hm.prot _ _ (hf k bT).1.1,by rw[i_ bT];exact .p _ _ (hf k bT).2⟩
 ·exact FC hm jM hc hr
end
section
variable {C:Cx} {n:Nat}
theorem mm:∀{cs:List AV} {ps:List PV},cZ cs=some ps→ps.length=cs.length∧∀k,k<cs.length→cs.getD k .undef=.p (ps.getD k .nils)
 |[],ps,h=>by simp[cZ] at h;subst h;simp
 | .p x::cs,ps,h=>by
  simp only[cZ,Option.map_eq_some_iff] at h
  obtain⟨qs,h1,rfl⟩:=h
  obtain⟨h2,h3⟩:=mm h1
  refine⟨by simp[h2],fun k hk=> ?_⟩
  cases k with
  |zero=>simp
  |succ k=>simpa using h3 k (by simpa using hk)
 | .agg _::_,_,h=>by simp[cZ] at h
 | .ref _ _::_,_,h=>by simp[cZ] at h
 | .arr _ _ _ _::_,_,h=>by simp[cZ] at h
 | .elt _ _ _ _::_,_,h=>by simp[cZ] at h
 | .fn _ _::_,_,h=>by simp[cZ] at h
 | .map _::_,_,h=>by simp[cZ] at h
 | .it _::_,_,h=>by simp[cZ] at h
 | .tup _::_,_,h=>by simp[cZ] at h
 | .gd _ _::_,_,h=>by simp[cZ] at h
 | .undef::_,_,h=>by simp[cZ] at h
theorem Qz{v:AV}{x:PV}{u:Value}(hx:uL v=some x)(hr:ar C n v u):bu C.M x u:=by
 cases v with
 |p y=>simp[uL] at hx;subst hx;exact cn hr
 |agg cs=>
  simp only[uL,Option.map_eq_some_iff] at hx
  obtain⟨ps,h5,rfl⟩:=hx
  obtain⟨h6,h7⟩:=mm h5
  cases hr with
  |agg _ vs h1 h2=>
   refine .agg _ _ (by rw[h1,h6]) (fun k hk=> ?_)
   have h8:=h2 k (by rw[←h6];exact hk)
   rw[h7 k (by rw[←h6];exact hk)] at h8
   exact cn h8
 |_=>simp[uL] at hx
theorem pQ:∀{cs:List AV} {ps:List PV},iF cs=some ps→ps.length=cs.length∧∀k,k<cs.length→∀u,ar C n (cs.getD k .undef) u→bu C.M (ps.getD k .nils) u
 |[],ps,h=>by simp[iF] at h;subst h;simp
 |x::cs,ps,h=>by
  simp only[iF,Option.bind_eq_some_iff,Option.map_eq_some_iff] at h
  obtain⟨y,h0,qs,h1,rfl⟩:=h
  obtain⟨h2,h3⟩:=pQ (cs:=cs) h1
  refine⟨by simp[h2],fun k hk u hr=> ?_⟩
  cases k with
  |zero=>exact Qz h0 (by simpa using hr)
  |succ k=>simpa using h3 k (by simpa using hk) u (by simpa using hr)
end
end Go.En
namespace Go.En
open Go.RowKit
section
variable {P:Program} {T:cX} {F:e_} {w:World} {C:Cx} {h rd:Hp} {n:Nat}
theorem jR(B o n:Nat):(⟨B,o,none⟩:Addr).add n=⟨B,o+n,none⟩:=by
 unfold Addr.add
 split
 ·rename_i e;subst e;rfl
 ·rfl
theorem tS(hT:T.Ok P){t:Nat}{i:TI}(hi:T.info t=some i):(isAgg t).run P w=.ok (aO i.desc) w:=by
 have hu:=(hT.info t i hi).1
 unfold isAgg
 simp only[Sem.run_bind,run_underlying hu,Result.andThen_ok]
 cases i.desc<;>rfl
theorem run_sizeOf(hT:T.Ok P){t:Nat}{i:TI}(hi:T.info t=some i):(sizeOf t).run P w=.ok i.size w:=by
 obtain⟨_,inf,z,h1,h2,_⟩:=hT.info t i hi
 simp[sizeOf,typeInfo,h1,h2]
theorem run_typeInfo(hT:T.Ok P){t:Nat}{i:TI}(hi:T.info t=some i):∃inf,(typeInfo t).run P w=.ok inf w∧inf.size=i.size∧inf.bytes=i.bytes:=by
 obtain⟨_,inf,z,h1,h2,h3,_⟩:=hT.info t i hi
 exact⟨inf,by simp[typeInfo,h1],h2,h3⟩
theorem Mh{cs:List AV}{f:Nat→Value}{off m:Nat}(hl:off+m≤cs.length)(hr:∀k,k<cs.length→ar C n (cs.getD k .undef) (f k)):
  ar C n (.agg ((cs.drop off).take m)) (.agg ((List.range m).map fun j=>f (off+j)).toArray):=by
 refine .agg _ _ (by simp;omega) (fun k hk=> ?_)
 have bT:k<m:=by simp at hk;omega
 have h1:=hr (off+k) (by omega)
 have e1:((cs.drop off).take m).getD k .undef=cs.getD (off+k) .undef:=by
  simp[List.getD_eq_getElem?_getD,bT,List.getElem?_drop]
 have e2:((List.range m).map fun j=>f (off+j)).toArray.getD k Go.undef=f (off+k):=by
  simp[Array.getD_eq_getD_getElem?,bT]
 rw[e1,e2];exact h1
theorem vf(hT:T.Ok P)(hG:∀g cs,T.glob g=some cs→C.L.glob g=some cs)(hm:Mem F C h w)(jM:∀id,rd.at id≠ .dead→h.at id=rd.at id){t:Nat}{x:AV}{v:Value}
  (aV:(ql T rd t x).ok=true)(hr:ar C h.length x v):∃u,(Instr.loadAt t v).run P w=.ok u w∧ar C h.length (ql T rd t x).v u:=by
 unfold ql at aV ⊢
 split at aV
 ·rename_i i cs off hi hc
  obtain⟨B,o,rfl,oQ⟩:=yL hG hm jM hc hr
  have H4:=tS (w:=w) hT hi
  have gK:=run_sizeOf (w:=w) hT hi
  by_cases ha:aO i.desc=true
  ·simp only[ha,if_true] at aV ⊢
   have hle:off+i.size≤cs.length:=by simpa using aV
   let f:=fun k=>(w.cell? ⟨B,o+k,none⟩).getD Go.undef
   have hl:=run_loadCells (P:=P) w ⟨B,o+off,none⟩ i.size (fun j=>f (off+j)) (fun j hj=>by
    obtain⟨u,hu,_⟩:=oQ (off+j) (by omega)
    rw[jR,Nat.add_assoc];simp[f,hu])
   refine⟨_, ?_,Mh (f:=f) hle (fun k hk=>by obtain⟨u,hu,h2⟩:=oQ k hk;simpa [f,hu] using h2)⟩
   simp[Instr.loadAt,Instr.sureAddr,loadVar,H4,gK,ha,hl]
  ·have zH:aO i.desc=false:=by simpa using ha
   simp only[zH,Bool.false_eq_true,if_false] at aV ⊢
   have bW:off<cs.length:=by simpa using aV
   obtain⟨u,hu,h2⟩:=oQ off bW
   refine⟨u, ?_,h2⟩
   simp[Instr.loadAt,Instr.sureAddr,loadVar,H4,zH,hu]
 ·simp[O.bad] at aV
theorem GY{m:Nat}{x y:AV}{v:Value}(hs:nq m x=some y)(hr:ar C n x v):
  ∃B o,v=.pointer (some ⟨B,o,none⟩)∧ar C n y (.pointer (some ⟨B,o+m,none⟩)):=by
 unfold nq at hs
 split at hs<;>cases hs
 ·cases cn hr with
  |ptr _ _ B o f h1 h2=>exact⟨B,_,rfl,.p _ _ (by rw[Nat.add_assoc];exact .ptr _ _ B o f h1 h2)⟩
 ·cases hr with
  |ref _ _ B h1 h2=>exact⟨B,_,rfl,.ref _ _ B h1 h2⟩
 ·cases hr with
  |elt _ _ _ _ B o cap sz h1 h2=>exact⟨B,_,rfl,by rw[Nat.add_assoc];exact .elt _ _ _ _ B o cap sz h1 h2⟩
  |eltS _ _ _ _ g' B o h1 h2 h3=>exact⟨B,o,rfl,.eltS _ _ _ _ g' B _ h1 h2 h3⟩
theorem oW(hT:T.Ok P){s f off:Nat}{i:TI}(hf:abd T s f=some (off,i)):
  ∃fs fd,P.underlying s=some (.struct fs)∧fs[f]? =some fd∧fd.offset=off∧T.info fd.type=some i:=by
 unfold abd descOf at hf
 cases hs:T.info s with
 |none=>rw[hs] at hf;cases hf
 |some si=>
  rw[hs] at hf
  have hu:=(hT.info s si hs).1
  cases hd:si.desc<;>simp only[hd] at hf hu<;>try cases hf
  rename_i fs
  simp only[Option.bind_eq_some_iff,Option.map_eq_some_iff] at hf
  obtain⟨fd,h1,i',h2,h3⟩:=hf
  cases h3
  exact⟨fs,fd,hu,by simpa using h1,rfl,h2⟩
theorem xa(hT:T.Ok P){B o:Nat}{fd:Field}{i:TI}(hi:T.info fd.type=some i)(hs:i.size≠0):
  (fieldPlace ⟨B,o,none⟩ fd).run P w=.ok ⟨B,o+fd.offset,none⟩ w:=by
 have gK:=run_sizeOf (w:=w) hT hi
 simp[fieldPlace,gK,hs,jR]
theorem CB(hT:T.Ok P){s f:Nat}{x:AV}{v:Value}(aV:(uF T s x f).ok=true)(hr:ar C n x v):
  ∃u,(Instr.fieldAt s v f).run P w=.ok u w∧ar C n (uF T s x f).v u:=by
 unfold uF at aV ⊢
 split at aV
 ·rename_i off i hf
  by_cases hs:i.size=0
  ·rw[if_pos hs] at aV;simp[O.bad] at aV
  ·rw[if_neg hs] at aV
   rw[if_neg hs]
   cases hy:nq off x with
   |none=>rw[hy] at aV;simp[O.of,O.bad] at aV
   |some y=>
    obtain⟨fs,fd,h1,h2,h3,h4⟩:=oW hT hf
    obtain⟨B,o,rfl,h5⟩:=GY hy hr
    refine⟨_, ?_,by simpa [O.of] using h5⟩
    have hp:=xa (w:=w) (B:=B) (o:=o) hT h4 hs
    rw[h3] at hp
    simp[Instr.fieldAt,run_underlying h1,h2,Instr.sureAddr,hp]
 ·simp[O.bad] at aV
theorem DH(hT:T.Ok P){t off:Nat}{i:TI}{cs:List AV}{vs:Array Value}(hi:T.info t=some i)(hl:vs.size=cs.length)
  (hr:∀k,k<cs.length→ar C n (cs.getD k .undef) (vs.getD k Go.undef)):
  (aO i.desc=true→off+i.size≤cs.length→∃u,(part t vs off).run P w=.ok u w∧ar C n (.agg ((cs.drop off).take i.size)) u)∧
  (aO i.desc=false→off<cs.length→∃u,(part t vs off).run P w=.ok u w∧ar C n (cs.getD off .undef) u):=by
 have H4:=tS (w:=w) hT hi
 have gK:=run_sizeOf (w:=w) hT hi
 constructor
 ·intro ha hle
  refine⟨.agg (vs.extract off (off+i.size)),by simp[part,H4,ha,gK], ?_⟩
  refine .agg _ _ (by simp;omega) (fun k hk=> ?_)
  have bT:k<i.size:=by simp at hk;omega
  have e1:((cs.drop off).take i.size).getD k .undef=cs.getD (off+k) .undef:=by
   simp[List.getD_eq_getElem?_getD,bT,List.getElem?_drop]
  have e2:(vs.extract off (off+i.size)).getD k Go.undef=vs.getD (off+k) Go.undef:=by
   simp only[Array.getD_eq_getD_getElem?,Array.getElem?_extract]
   rw[if_pos (by omega)]
  rw[e1,e2];exact hr _ (by omega)
 ·intro ha bW
  obtain⟨u,hu⟩:∃u,vs[off]? =some u:=⟨_,getD_some (show off<vs.size by omega)⟩
  have h1:=hr off bW
  rw[Array.getD_eq_getD_getElem?,hu] at h1
  exact⟨u,by simp[part,H4,ha,hu],h1⟩
theorem D6(hT:T.Ok P){s f:Nat}{x:AV}{v:Value}(aV:(D7 T s x f).ok=true)(hr:ar C n x v):
  ∃u,(Instr.field s v f).run P w=.ok u w∧ar C n (D7 T s x f).v u:=by
 unfold D7 at aV ⊢
 split at aV
 ·rename_i off i cs hf
  obtain⟨fs,fd,h1,h2,h3,h4⟩:=oW hT hf
  cases hr with
  |agg _ vs h5 h6=>
   have hp:=DH (w:=w) (off:=off) hT h4 h5 h6
   rw[←h3] at hp aV ⊢
   by_cases ha:aO i.desc=true
   ·simp only[ha,if_true] at aV ⊢
    obtain⟨u,h7,h8⟩:=hp.1 ha (by simpa using aV)
    exact⟨u,by simp[Instr.field,run_underlying h1,h2,asAgg,h7],h8⟩
   ·have zH:aO i.desc=false:=by simpa using ha
    simp only[zH,Bool.false_eq_true,if_false] at aV ⊢
    obtain⟨u,h7,h8⟩:=hp.2 zH (by simpa using aV)
    exact⟨u,by simp[Instr.field,run_underlying h1,h2,asAgg,h7],h8⟩
 ·simp[O.bad] at aV
theorem dn(hT:T.Ok P){t:Nat}{e:TI}(he:elemOf T t=some e):∃et,P.underlying t=some (.slice et)∧T.info et=some e:=by
 unfold elemOf descOf at he
 cases hs:T.info t with
 |none=>rw[hs] at he;cases he
 |some si=>
  rw[hs] at he
  have hu:=(hT.info t si hs).1
  cases hd:si.desc<;>simp only[hd] at he hu<;>try cases he
  exact⟨_,hu,he⟩
theorem bE(hT:T.Ok P){t:Nat}{d:TypeDesc}(hd:descOf T t=some d):P.underlying t=some d:=by
 unfold descOf at hd
 cases hs:T.info t with
 |none=>rw[hs] at hd;cases hd
 |some si=>rw[hs] at hd;cases hd;exact(hT.info t si hs).1
end
end Go.En
namespace Go.En
open Go.RowKit
section
variable {P:Program} {T:cX} {F:e_} {w:World} {C:Cx} {h rd:Hp} {n:Nat}
theorem uj(hT:T.Ok P)(hG:∀g cs,T.glob g=some cs→C.L.glob g=some cs)(hm:Mem F C h w)(jM:∀id,rd.at id≠ .dead→h.at id=rd.at id){t:Nat}{x i:AV}{v iv:Value}
  (aV:(dm T rd t x i).ok=true)(hr:ar C h.length x v)(hi:ar C h.length i iv):
  ∃u,(Instr.indexAt t v iv).run P w=.ok u w∧ar C h.length (dm T rd t x i).v u:=by
 unfold dm at aV ⊢
 split at aV
 ·rename_i l k m
  cases he:elemOf T t with
  |none=>rw[he] at aV;simp[O.bad] at aV
  |some e=>
   simp only[he] at aV ⊢
   obtain⟨et,h1,h2⟩:=dn hT he
   have gK:=run_sizeOf (w:=w) hT h2
   simp only[Bool.and_eq_true,decide_eq_true_eq] at aV
   obtain⟨⟨h3,h4⟩,h5⟩:=aV
   have:=c9 hi;subst this
   cases cn hr with
   |sl0=>simp at h4;omega
   |slE=>simp at h4;omega
   |sl _ B o cap sz f h6 h7 h8 h9=>
    have bW:m.toNat<l.length:=by omega
    have hx:(l.getD m.toNat .nils).cells.length=sz:=h7 _ (by
     rw[List.getD_eq_getElem?_getD,List.getElem?_eq_getElem bW];exact List.getElem_mem _)
    rw[hx] at h5;subst h5
    have zF:=bK h7
    refine⟨.pointer (some ⟨B,o+m.toNat*e.size,none⟩), ?_,.p _ _ ?_⟩
    ·simp[Instr.indexAt,asIntOf,run_underlying h1,h3,h4,gK,jR]
    ·refine .ptr (l.getD m.toNat .nils).cells 0 B (o+m.toNat*e.size) (fun j=>f (m.toNat*e.size+j)) (fun j hj=> ?_) (fun j hj=> ?_)
     ·rw[hx] at hj
      have JE:m.toNat*e.size+j<l.length*e.size:=by
       have:(m.toNat+1)*e.size≤l.length*e.size:=Nat.mul_le_mul_right _ bW
       rw[Nat.succ_mul] at this;omega
      rw[Nat.add_assoc];exact h8 _ (by omega)
     ·rw[hx] at hj
      have JE:m.toNat*e.size+j<l.length*e.size:=by
       have:(m.toNat+1)*e.size≤l.length*e.size:=Nat.mul_le_mul_right _ bW
       rw[Nat.succ_mul] at this;omega
      have jU:=h9 (m.toNat*e.size+j) (by omega)
      rwa [iC h7 bW hj] at jU
 ·rename_i id g off len k m
  split at aV
  ·rename_i e g' sz sh es he aH
   simp only[Bool.and_eq_true,decide_eq_true_eq] at aV
   obtain⟨⟨h3,h4⟩,rfl,rfl,h5⟩:=aV
   obtain⟨et,h1,h2⟩:=dn hT he
   have gK:=run_sizeOf (w:=w) hT h2
   have:=c9 hi;subst this
   have nS:h.at id=.arr g e.size sh es:=by rw[jM id (by rw[aH];simp),aH]
   cases hr with
   |arr _ _ _ _ B o cap sz a h6 h7 h8 h9=>
    have ho:=hm.objs id h6
    rw[nS,h7] at ho
    obtain⟨_,rfl,HT,jU,_⟩:=ho
    have ha:a=o+off*e.size:=by
     rcases h9 with h9|h9
     ·exact h9
     ·omega
    subst ha
    refine⟨.pointer (some ⟨B,o+(off+m.toNat)*e.size+0,none⟩), ?_,.elt _ _ _ _ B o cap e.size h6 h7⟩
    simp[Instr.indexAt,asIntOf,run_underlying h1,h3,h4,gK,jR,Nat.add_mul,Nat.add_assoc]
   |arrN=>simp at h4;omega
   |arrS _ _ _ _ g' a cap h6 h7 h8=>
    have ho:=hm.objs id h6
    rw[nS] at ho
    cases hc:C.μ id<;>rw[hc] at ho h7<;>simp[Cn.gen] at h7
    ·obtain⟨h4,_⟩:=ho;omega
    ·obtain⟨h4,_⟩:=ho;omega
  ·simp[O.bad] at aV
 ·rename_i id off k m
  cases hd:descOf T t with
  |none=>simp[hd,O.bad] at aV
  |some d=>
   have h1:=bE hT hd
   cases d<;>simp only[hd] at aV ⊢<;>try (simp[O.bad] at aV;done)
   rename_i len et
   cases he:T.info et with
   |none=>simp[he,O.bad] at aV
   |some e=>
    simp only[he] at aV ⊢
    have gK:=run_sizeOf (w:=w) hT he
    have h3:0≤m∧m<(len:Int):=by simpa using aV
    have:=c9 hi;subst this
    cases hr with
    |ref _ _ B h6 h7=>
     refine⟨_, ?_,.ref _ _ B h6 h7⟩
     simp[Instr.indexAt,asIntOf,run_underlying h1,h3,gK,jR,Instr.sureAddr]
 ·rename_i g k m
  split at aV
  ·rename_i len et ps hd A9
   have h1:=bE hT hd
   cases he:T.info et with
   |none=>simp[he,O.bad] at aV
   |some e=>
    simp only[he] at aV ⊢
    have gK:=run_sizeOf (w:=w) hT he
    have h3:0≤m∧m<(len:Int):=by simpa using aV
    have:=c9 hi;subst this
    obtain⟨f,hf⟩:=hm.gl g ps (hG _ _ A9)
    cases hr with
    |glob _=>
     refine⟨.pointer (some ⟨g,0+m.toNat*e.size,none⟩), ?_,.p _ _ (.ptr ps (m.toNat*e.size) g 0 f (fun j hj=>by rw[Nat.zero_add];exact(hf j hj).1) (fun j hj=>(hf j hj).2))⟩
     simp[Instr.indexAt,asIntOf,run_underlying h1,h3,gK,jR,Instr.sureAddr]
  ·simp[O.bad] at aV
 ·simp[O.bad] at aV
theorem Kl{s:ByteArray}{i:Int}(bW:i.toNat<s.size):(s[i.toNat].toNat:Int)=ig s i:=by
 have ayz:i.toNat<s.data.toList.length:=by simpa using bW
 unfold ig
 rw[List.getD_eq_getElem?_getD,List.getElem?_eq_getElem ayz]
 simp;rfl
theorem Cb(hT:T.Ok P){t:Nat}{x i:AV}{v iv:Value}(aV:(ri T t x i).ok=true)(hr:ar C n x v)(hi:ar C n i iv):
  ∃u,(Instr.index t v iv).run P w=.ok u w∧ar C n (ri T t x i).v u:=by
 unfold ri at aV ⊢
 split at aV
 ·rename_i s k m
  cases hd:descOf T t with
  |none=>simp[hd,O.bad] at aV
  |some d=>
   have h1:=bE hT hd
   cases d<;>simp only[hd] at aV ⊢<;>try (simp[O.bad] at aV;done)
   have h3:0≤m∧m<(s.size:Int):=by simpa using aV
   have:=c9 hi;subst this
   have:=j0 hr;subst this
   have bW:m.toNat<s.size:=by omega
   refine⟨_, ?_,kQ _ _⟩
   simp[Instr.index,asIntOf,run_underlying h1,h3,bW,Kl bW]
 ·rename_i cs k m
  cases hd:descOf T t with
  |none=>simp[hd,O.bad] at aV
  |some d=>
   have h1:=bE hT hd
   cases d<;>simp only[hd] at aV ⊢<;>try (simp[O.bad] at aV;done)
   rename_i len et
   cases he:T.info et with
   |none=>simp[he,O.bad] at aV
   |some e=>
    simp only[he] at aV ⊢
    by_cases hb:(aO e.desc||e.size !=1)=true
    ·rw[if_pos hb] at aV;simp[O.bad] at aV
    ·rw[if_neg hb] at aV ⊢
     simp at hb
     obtain⟨nY,p9⟩:=hb
     have h3:0≤m∧m<(len:Int)∧m<(cs.length:Int):=by simpa using aV
     have:=c9 hi;subst this
     cases hr with
     |agg _ vs h5 h6=>
      have hp:=(DH (w:=w) (off:=m.toNat) hT he h5 h6).2 nY (by omega)
      obtain⟨u,h7,h8⟩:=hp
      have gK:=run_sizeOf (w:=w) hT he
      exact⟨u,by simp[Instr.index,asIntOf,run_underlying h1,h3,gK,p9,h7],h8⟩
 ·simp[O.bad] at aV
def lj(C:Cx)(n:Nat):Option AV→Option Value→Prop
 |none,none=>True
 |some x,some v=>ar C n x v
 |_,_=>False
theorem gL{lo hi:Option AV}{lv hv:Option Value}{l r:Int}{len cap:Nat}{b:Bool}(hl:bnd 0 lo=some l)(hh:bnd len hi=some r)
  (rl:lj C n lo lv)(rh:lj C n hi hv)(h0:0≤l)(h1:l≤r)(h2:r≤(cap:Int))(_h3:(len:Int)≤cap):
  (Instr.sliceBounds b len cap lv hv none).run P w=.ok (l.toNat,r.toNat,cap) w:=by
 have hb:∀(x:Value) (k:IntKind) (i:Int) (y:Nat) (code:BoundsCode),x=.int k i→0≤i→i≤(y:Int)→(Instr.sliceBound x y code).run P w=.ok i.toNat w:=by
  intro x k i y code hx h0 h1;subst hx
  simp[Instr.sliceBound,asIntOf,h0,h1]
 unfold Instr.sliceBounds
 have wo:lv=none∧l=0∨∃k,lv=some (.int k l):=by
  unfold bnd at hl
  split at hl<;>cases hl
  ·cases lv with
   |none=>exact .inl ⟨rfl,rfl⟩
   |some v=>exact rl.elim
  ·cases lv with
   |none=>exact rl.elim
   |some v=>exact .inr ⟨_,by rw[c9 rl]⟩
 have hhi:hv=none∧r=len∨∃k,hv=some (.int k r):=by
  unfold bnd at hh
  split at hh<;>cases hh
  ·cases hv with
   |none=>exact .inl ⟨rfl,rfl⟩
   |some v=>exact rh.elim
  ·cases hv with
   |none=>exact rh.elim
   |some v=>exact .inr ⟨_,by rw[c9 rh]⟩
 rcases hhi with⟨rfl,rfl⟩|⟨k,rfl⟩<;>rcases wo with⟨rfl,rfl⟩|⟨k',rfl⟩
 ·simp
 ·simp[hb _ k' l len _ rfl h0 (by omega)]
 ·simp[hb _ k r cap _ rfl (by omega) h2]
 ·simp[hb _ k r cap _ rfl (by omega) h2,hb _ k' l r.toNat _ rfl h0 (by omega)]
theorem Oa{es:List PV}{sz l r:Nat}(hu:∀x∈es,x.cells.length=sz)(h1:l≤r)(h2:r≤es.length):
  (flat ((es.take r).drop l)).length=(r-l)*sz∧∀k,k<(r-l)*sz→(flat ((es.take r).drop l)).getD k .nils=(flat es).getD (l*sz+k) .nils:=by
 have nW:∀x∈(es.take r).drop l,x.cells.length=sz:=fun x hx=>hu x (List.mem_of_mem_take (List.mem_of_mem_drop hx))
 have hl:=bK nW
 have hlen:((es.take r).drop l).length=r-l:=by simp;omega
 rw[hlen] at hl
 refine⟨hl,fun k hk=> ?_⟩
 have gK:0<sz:=by
  rcases Nat.eq_zero_or_pos sz with h|h
  ·subst h;simp at hk
  ·exact h
 have hd:=Nat.div_add_mod k sz
 have bW:k/sz<r-l:=Nat.div_lt_of_lt_mul (by rw[Nat.mul_comm];exact hk)
 have HZ:=Nat.mod_lt k gK
 have e:k=(k/sz)*sz+k % sz:=by rw[Nat.mul_comm];exact hd.symm
 rw[e,iC nW (by omega) HZ,←Nat.add_assoc,←Nat.add_mul,iC hu (by omega) HZ]
 congr 2
 simp only[List.getD_eq_getElem?_getD,List.getElem?_drop,List.getElem?_take]
 rw[if_pos (by omega)]
theorem BB(hT:T.Ok P)(hm:Mem F C h w)(jM:∀id,rd.at id≠ .dead→h.at id=rd.at id){t:Nat}{x:AV}{lo hi:Option AV}{v:Value}{lv hv:Option Value}
  (aV:(eG T rd t x lo hi).ok=true)(hr:ar C h.length x v)(rl:lj C h.length lo lv)(rh:lj C h.length hi hv):
  ∃u,(Instr.sliceAt t v lv hv none).run P w=.ok u w∧ar C h.length (eG T rd t x lo hi).v u:=by
 unfold eG at aV ⊢
 split at aV
 ·rename_i l r hl hh
  cases hlen:x.lenOf with
  |none=>rw[hlen] at hh;cases hh
  |some len=>
   rw[hlen] at hh;simp only[Option.bind_some] at hh
   split at aV
   ·rename_i es
    simp only[AV.lenOf,Option.some.injEq] at hlen;subst hlen
    cases he:elemOf T t with
    |none=>simp[he,O.bad] at aV
    |some e=>
     simp only[he,Bool.and_eq_true,decide_eq_true_eq] at aV ⊢
     obtain⟨⟨h1,h2,h3⟩,hu⟩:=aV
     obtain⟨et,h4,h5⟩:=dn hT he
     have gK:=run_sizeOf (w:=w) hT h5
     cases cn hr with
     |sl0=>
      have AF:r=0:=by simp at h3;omega
      have Un:l=0:=by omega
      subst AF;subst Un
      have hb:=gL (P:=P) (w:=w) (b:=true) (cap:=0) hl hh rl rh (by omega) (by omega) (by omega) (by simp)
      refine⟨.slice none 0 0, ?_,.p _ _ (by simpa using bu.sl0)⟩
      simp at hb
      simp[Instr.sliceAt,Instr.slice,run_underlying h4,hb,gK]
     |slE a cap=>
      have AF:r=0:=by simp at h3;omega
      have Un:l=0:=by omega
      subst AF;subst Un
      have hb:=gL (P:=P) (w:=w) (b:=true) (cap:=cap) hl hh rl rh (by omega) (by omega) (by omega) (by simp)
      refine⟨.slice (some a) 0 cap, ?_,.p _ _ (by simpa using bu.slE a cap)⟩
      simp at hb
      simp[Instr.sliceAt,Instr.slice,run_underlying h4,hb,gK,Addr.add]
     |sl _ B o cap sz f h6 h7 h8 h9=>
      have hb:=gL (P:=P) (w:=w) (b:=true) (cap:=cap) hl hh rl rh h1 h2 (by omega) (by omega)
      refine⟨.slice (some ⟨B,if cap=l.toNat then o else o+l.toNat*e.size,none⟩) (r.toNat-l.toNat) (cap-l.toNat), ?_,.p _ _ ?_⟩
      ·simp only[Instr.sliceAt,Instr.slice,Sem.run_bind,run_underlying h4,Result.andThen_ok,hb,gK,Sem.run_pure]
       split<;>simp[jR]
      ·have Ly:((es.take r.toNat).drop l.toNat).length=r.toNat-l.toNat:=by simp;omega
       obtain⟨AE,Jw⟩:=Oa h7 (show l.toNat≤r.toNat by omega) (show r.toNat≤es.length by omega)
       have zF:=bK h7
       have zG:∀k,k<(r.toNat-l.toNat)*sz→(if cap=l.toNat then o else o+l.toNat*e.size)+k=o+(l.toNat*sz+k):=by
        intro k hk
        have Cf:0<r.toNat-l.toNat:=Nat.pos_of_ne_zero (fun e=>by rw[e] at hk;simp at hk)
        rw[if_neg (by omega)]
        rcases hu with hu|hu
        ·have:l.toNat=0:=by omega
         rw[this];simp
        ·have:sz=e.size:=by
          rw[←h7 _ (List.getElem_mem (show 0<es.length by omega)),hu _ (List.getElem_mem (show 0<es.length by omega))]
         subst this;omega
       have ny:∀k,k<(r.toNat-l.toNat)*sz→l.toNat*sz+k<(flat es).length:=by
        intro k hk
        rw[zF]
        have:r.toNat*sz≤es.length*sz:=Nat.mul_le_mul_right _ (by omega)
        rw[Nat.sub_mul] at hk;omega
       have:=bu.sl (M:=C.M) ((es.take r.toNat).drop l.toNat) B (if cap=l.toNat then o else o+l.toNat*e.size) (cap-l.toNat) sz (fun k=>f (l.toNat*sz+k)) (by omega)
        (fun x hx=>h7 x (List.mem_of_mem_take (List.mem_of_mem_drop hx)))
        (fun k hk=>by rw[AE] at hk;rw[zG k hk];exact h8 _ (ny k hk))
        (fun k hk=>by rw[AE] at hk;rw[Jw k hk];exact h9 _ (ny k hk))
       rwa [Ly] at this
   ·simp only[AV.lenOf,Option.some.injEq] at hlen;subst hlen
    cases he:elemOf T t with
    |none=>simp[he,O.bad] at aV
    |some e=>
     simp only[he,Option.isSome_some,if_true,decide_eq_true_eq] at aV ⊢
     obtain⟨rfl,rfl⟩:=aV
     obtain⟨et,h4,h5⟩:=dn hT he
     have gK:=run_sizeOf (w:=w) hT h5
     cases cn hr with
     |nils=>
      have hb:=gL (P:=P) (w:=w) (b:=true) (cap:=0) hl hh rl rh (by omega) (by omega) (by omega) (by simp)
      refine⟨.slice none 0 0, ?_,.p _ _ .nils⟩
      simp at hb
      simp[Instr.sliceAt,Instr.slice,run_underlying h4,hb,gK]
   ·rename_i s
    simp only[AV.lenOf,Option.some.injEq] at hlen;subst hlen
    cases hd:descOf T t with
    |none=>simp[hd,O.bad] at aV
    |some d=>
     have h4:=bE hT hd
     cases d<;>simp only[hd] at aV ⊢<;>try (simp[O.bad] at aV;done)
     have h1:0≤l∧l≤r∧r≤(s.size:Int):=by simpa using aV
     have:=j0 hr;subst this
     have hb:=gL (P:=P) (w:=w) (b:=false) (cap:=s.size) hl hh rl rh h1.1 h1.2.1 h1.2.2 (by omega)
     refine⟨_, ?_,.p _ _ (.str _)⟩
     simp[Instr.sliceAt,Instr.slice,run_underlying h4,hb]
   ·rename_i id g off ax1
    simp only[AV.lenOf,Option.some.injEq] at hlen;subst hlen
    split at aV
    ·rename_i e g' sz sh es he aH
     simp only[Bool.and_eq_true,decide_eq_true_eq] at aV
     obtain⟨⟨h1,h2,h3⟩,rfl,rfl,h5⟩:=aV
     obtain⟨et,h4,h6⟩:=dn hT he
     have gK:=run_sizeOf (w:=w) hT h6
     have nS:h.at id=.arr g e.size sh es:=by rw[jM id (by rw[aH];simp),aH]
     cases hr with
     |arr _ _ _ _ B o cap sz a h7 h8 h9 jU=>
      have ho:=hm.objs id h7
      rw[nS,h8] at ho
      obtain⟨_,rfl,HT,nz,_⟩:=ho
      have hb:=gL (P:=P) (w:=w) (b:=true) (cap:=cap-off) hl hh rl rh h1 h2 (by omega) (by omega)
      refine⟨.slice (some ⟨B,if cap-off=l.toNat then a else a+l.toNat*e.size,none⟩) (r.toNat-l.toNat) (cap-off-l.toNat), ?_, ?_⟩
      ·simp only[Instr.sliceAt,Instr.slice,Sem.run_bind,run_underlying h4,Result.andThen_ok,hb,gK,Sem.run_pure]
       split<;>simp[jR]
      ·have wt:(r-l).toNat=r.toNat-l.toNat:=by omega
       rw[wt,Nat.sub_sub]
       refine .arr _ _ _ _ B o cap e.size _ h7 h8 (by omega) ?_
       by_cases jb:cap-off=l.toNat
       ·right;omega
       ·rw[if_neg jb]
        rcases jU with jU|jU
        ·left;rw[jU,Nat.add_mul,Nat.add_assoc]
        ·omega
     |arrN _ _ h7 h8=>
      have ho:=hm.objs id h7
      rw[nS,h8] at ho
      obtain⟨_,rfl⟩:=ho
      have AF:r=0:=by simp at h3;omega
      have Un:l=0:=by omega
      subst AF;subst Un
      have hb:=gL (P:=P) (w:=w) (b:=true) (cap:=0) hl hh rl rh (by omega) (by omega) (by omega) (by simp)
      refine⟨.slice none 0 0, ?_,.arrN id g h7 h8⟩
      simp at hb
      simp[Instr.sliceAt,Instr.slice,run_underlying h4,hb,gK]
     |arrS _ _ _ _ g' a cap h7 h8 h9=>
      have ho:=hm.objs id h7
      rw[nS] at ho
      cases hc:C.μ id<;>rw[hc] at ho h8<;>simp[Cn.gen] at h8
      ·obtain⟨h4,_⟩:=ho;omega
      ·obtain⟨h4,_⟩:=ho;omega
    ·simp[O.bad] at aV
   ·simp[O.bad] at aV
 ·simp[O.bad] at aV
end
end Go.En
namespace Go.En
open Go.RowKit
section
variable {P:Program} {T:cX} {F:e_} {w:World} {C:Cx} {h rd:Hp} {n:Nat}
def m0(C:Cx)(n:Nat)(cs:List AV)(a:Array Value):Prop:=a.size=cs.length∧∀k,k<cs.length→ar C n (cs.getD k .undef) (a.getD k Go.undef)
theorem kH(vs:List Value):∀(j off:Nat) (cells:Array Value),off+j+vs.length≤cells.size→
  ((vs.zipIdx j).foldl (fun cs (p:Value×Nat)=>cs.setIfInBounds (off+p.2) p.1) cells).toList=cells.toList.take (off+j)++vs++cells.toList.drop (off+j+vs.length):=by
 induction vs with
 |nil=>intro j off cells h1;simp
 |cons v vs ih=>
  intro j off cells h1
  simp only[List.zipIdx_cons,List.foldl_cons]
  simp only[List.length_cons] at h1
  rw[ih (j+1) off (cells.setIfInBounds (off+j) v) (by simp;omega)]
  simp only[Array.toList_setIfInBounds,List.length_cons]
  have bW:off+j<cells.toList.length:=by simp;omega
  rw[List.drop_set_of_lt (by omega)]
  rw[show off+(j+1)=(off+j)+1 from by omega,List.take_succ_eq_append_getElem (by simpa using bW)]
  simp only[List.getElem_set_self,List.append_assoc,List.singleton_append]
  rw[List.take_set_of_le (by omega)]
  rw[show off+j+1+vs.length=off+j+(vs.length+1) from by omega]
theorem we{x:AV}{v:Value}(hr:ar C n x v)(h1:x.one=true):v.oneCell'=true∧v.cells= #[v]:=by
 cases hr with
 |p x v hp=>cases hp<;>first|exact⟨rfl,rfl⟩|(simp[AV.one] at h1)
 |_=>first|exact⟨rfl,rfl⟩|(simp[AV.one] at h1)
theorem mP{x:AV}{v:Value}(hr:ar C n x v)(ha:x.cells.all AV.one=true):m0 C n x.cells v.cells∧∀u∈v.cells.toList,u.oneCell'=true:=by
 have key:x.one=true→x.cells=[x]→m0 C n x.cells v.cells∧∀u∈v.cells.toList,u.oneCell'=true:=by
  intro h1 h2
  obtain⟨h3,h4⟩:=we hr h1
  rw[h2,h4]
  refine⟨⟨rfl,fun k hk=> ?_⟩,fun u hu=>by simp at hu;rw[hu];exact h3⟩
  have:k=0:=by simp at hk;exact hk
  subst this
  simpa using hr
 cases x with
 |agg cs=>
  cases hr with
  |agg _ vs h1 h2=>
   refine⟨⟨h1,h2⟩,fun u hu=> ?_⟩
   simp only[AV.cells,List.all_eq_true] at ha
   obtain⟨k,hk,rfl⟩:=List.getElem_of_mem hu
   have bT:k<cs.length:=by simp[Value.cells] at hk;omega
   have h3:=h2 k bT
   rw[List.getD_eq_getElem?_getD,List.getElem?_eq_getElem bT] at h3
   simp[Array.getD_eq_getD_getElem?,show k<vs.size by omega] at h3
   exact(we h3 (ha _ (List.getElem_mem _))).1
 |_=>exact key (by simpa [AV.cells] using ha) rfl
theorem nj{α:Type}(cs vs:List α)(off k:Nat)(hle:off+vs.length≤cs.length):
  (cs.take off++vs++cs.drop (off+vs.length))[k]? =if k<off then cs[k]? else if k<off+vs.length then vs[k-off]? else cs[k]? :=by
 have h3:(cs.take off).length=off:=by simp;omega
 rw[List.append_assoc]
 by_cases c1:k<off
 ·rw[List.getElem?_append_left (by omega),List.getElem?_take_of_lt c1,if_pos c1]
 ·rw[List.getElem?_append_right (by omega),h3,if_neg c1]
  by_cases c2:k<off+vs.length
  ·rw[List.getElem?_append_left (by omega),if_pos c2]
  ·rw[List.getElem?_append_right (by omega),List.getElem?_drop,if_neg c2,show off+vs.length+(k-off-vs.length)=k from by omega]
theorem qE{cs vs:List AV}{a b:Array Value}{off:Nat}(h1:m0 C n cs a)(h2:m0 C n vs b)(hle:off+vs.length≤cs.length):
  m0 C n (splice cs off vs) (a.toList.take off++b.toList++a.toList.drop (off+b.toList.length)).toArray:=by
 obtain⟨l1,r1⟩:=h1
 obtain⟨l2,r2⟩:=h2
 refine⟨by simp[splice];omega,fun k hk=> ?_⟩
 have bT:k<cs.length:=by simp[splice] at hk;omega
 rw[Array.getD_eq_getD_getElem?,List.getElem?_toArray,List.getD_eq_getElem?_getD]
 unfold splice
 rw[nj cs vs off k hle,nj a.toList b.toList off k (by simp;omega)]
 have e:b.toList.length=vs.length:=by simp[l2]
 rw[e]
 by_cases c1:k<off
 ·rw[if_pos c1,if_pos c1]
  have:=r1 k bT
  simpa [List.getD_eq_getElem?_getD,Array.getD_eq_getD_getElem?] using this
 ·rw[if_neg c1,if_neg c1]
  by_cases c2:k<off+vs.length
  ·rw[if_pos c2,if_pos c2]
   have:=r2 (k-off) (by omega)
   simpa [List.getD_eq_getElem?_getD,Array.getD_eq_getD_getElem?] using this
  ·rw[if_neg c2,if_neg c2]
   have:=r1 k bT
   simpa [List.getD_eq_getElem?_getD,Array.getD_eq_getD_getElem?] using this
theorem Eh{α β:Type}{f:α→Option β}:∀{l:List α} {r:List β},l.mapM f=some r→∀(k:Nat) (x:α),l[k]? =some x→f x=r[k]?
 |[],r,_,k,x,hk=>by simp at hk
 |y::l,r,h,k,x,hk=>by
  simp only[List.mapM_cons,Option.bind_eq_bind,Option.pure_def,Option.bind_eq_some_iff] at h
  obtain⟨z,h1,rs,h2,h3⟩:=h
  cases h3
  cases k with
  |zero=>simp at hk;subst hk;simpa using h1
  |succ k=>simpa using Eh h2 k x (by simpa using hk)
theorem Nx(hT:T.Ok P){t:Nat}{i:TI}(hi:T.info t=some i):
  ∃z,(zeroValue t).run P w=.ok z w∧m0 C n (i.zero.map .p) z.cells∧(aO i.desc=true→z=.agg z.cells)∧(aO i.desc=false→i.size=1∧z.cells= #[z])∧z.cells.size=i.size:=by
 obtain⟨_,inf,z,h1,h2,h3,h4,h5,h6,h7,h8,h9⟩:=hT.info t i hi
 refine⟨z,by simp[zeroValue,typeInfo,h1,h4],⟨by simp;omega,fun k hk=> ?_⟩,h8,h9,h5⟩
 have bT:k<i.zero.length:=by simpa using hk
 rw[i_ bT]
 exact .p _ _ ((h7 k bT).1.mono (fun a v e=>by cases e))
theorem AP(hT:T.Ok P){s:Nat}{fs:Array Field}{BN:List (Nat×Nat)}(hs:P.underlying s=some (.struct fs))
  (hp:fs.toList.mapM (fun f=>(P.info? f.type).map fun i=>(f.offset,i.size))=some BN){u:Operand→AV}{e:Operand→Value}:
  ∀(l:List (Nat×Operand)) (cs rQ:List AV) (a:Array Value),m0 C n cs a→(∀p∈l,ar C n (u p.2) (e p.2))→de T s cs (l.map fun (i,x)=>(i,u x))=some rQ→
   ∃a',Instr.fill (BN.toArray[·]?) a (l.map fun (i,x)=>(i,e x))=some a'∧m0 C n rQ a'
 |[],cs,rQ,a,h1,_,h2=>by simp[de] at h2;subst h2;exact⟨a,rfl,h1⟩
 |(f,x)::l,cs,rQ,a,h1,hl,h2=>by
  simp only[List.map_cons,de,Option.bind_eq_some_iff] at h2
  obtain⟨⟨off,i⟩,h3,h4⟩:=h2
  simp only at h4
  split at h4
  ·rename_i hc
   obtain⟨h5,h6,h7⟩:=hc
   have XH:(u x).cells.length=i.size:=h5
   have Dg:ar C n (u x) (e x):=hl (f,x) (by simp)
   obtain⟨fs',fd,g1,g2,g3,g4⟩:=oW hT h3
   rw[hs] at g1;cases g1
   obtain⟨_,inf,z,g5,g6,_⟩:=hT.info _ _ g4
   have Jy:BN.toArray[f]? =some (off,i.size):=by
    have:=Eh hp f fd (by simpa using g2)
    simp only[g5,Option.map_some] at this
    rw[List.getElem?_toArray,←this,g3,g6]
   obtain⟨g7,g8⟩:=mP Dg h7
   simp only[List.map_cons,Instr.fill,Jy]
   rw[if_neg (by rw[g7.1,h1.1];simp;omega)]
   refine AP hT hs hp l _ rQ _ ?_ (fun p hp=>hl p (by simp[hp])) h4
   have jU:=qE (off:=off) h1 g7 (by omega)
   have nz:=kH (e x).cells.toList 0 off a (by rw[h1.1];have:=g7.1;simp;omega)
   simp only[Nat.add_zero] at nz
   rw[←nz] at jU
   rw[←Array.foldl_toList,Array.toList_zipIdx]
   exact jU
  ·cases h4
theorem AQ{sz:Nat}{u:Operand→AV}{e:Operand→Value}:
  ∀(l:List (Nat×Operand)) (cs rQ:List AV) (a:Array Value),m0 C n cs a→(∀p∈l,ar C n (u p.2) (e p.2))→oV sz cs (l.map fun (i,x)=>(i,u x))=some rQ→
   ∃a',Instr.fill (fun i=>some (i*sz,sz)) a (l.map fun (i,x)=>(i,e x))=some a'∧m0 C n rQ a'
 |[],cs,rQ,a,h1,_,h2=>by simp[oV] at h2;subst h2;exact⟨a,rfl,h1⟩
 |(f,x)::l,cs,rQ,a,h1,hl,h2=>by
  simp only[List.map_cons,oV] at h2
  split at h2
  ·rename_i hc
   obtain⟨h5,h6,h7⟩:=hc
   have Dg:ar C n (u x) (e x):=hl (f,x) (by simp)
   obtain⟨g7,g8⟩:=mP Dg h7
   simp only[List.map_cons,Instr.fill]
   rw[if_neg (by rw[g7.1,h1.1];simp;omega)]
   refine AQ l _ rQ _ ?_ (fun p hp=>hl p (by simp[hp])) h2
   have jU:=qE (off:=f*sz) h1 g7 (by omega)
   have nz:=kH (e x).cells.toList 0 (f*sz) a (by rw[h1.1];have:=g7.1;simp;omega)
   simp only[Nat.add_zero] at nz
   rw[←nz] at jU
   rw[←Array.foldl_toList,Array.toList_zipIdx]
   exact jU
  ·cases h2
theorem Ei{α β:Type}{f:α→Option β}:∀{l:List α},(∀x∈l,(f x).isSome=true)→∃r,l.mapM f=some r
 |[],_=>⟨[],rfl⟩
 |x::l,h=>by
  obtain⟨r,hr⟩:=Ei (fun y hy=>h y (List.mem_cons_of_mem x hy))
  obtain⟨y,hy⟩:=Option.isSome_iff_exists.1 (h x (by simp))
  exact⟨y::r,by simp[List.mapM_cons,hy,hr]⟩
theorem s9(hT:T.Ok P){t:Nat}{l:List (Nat×Operand)}{u:Operand→AV}{e:Operand→Value}(aV:(kZ T t (l.map fun (i,x)=>(i,u x))).ok=true)
  (hr:∀p∈l,ar C n (u p.2) (e p.2)):
  ∃v,(Instr.build t (l.toArray.map fun (i,x)=>(i,e x))).run P w=.ok v w∧ar C n (kZ T t (l.map fun (i,x)=>(i,u x))).v v:=by
 unfold kZ at aV ⊢
 cases hi:T.info t with
 |none=>simp[hi,O.bad] at aV
 |some i=>
  simp only[hi] at aV ⊢
  cases hd:i.desc<;>simp only[hd] at aV ⊢<;>try (simp[O.bad] at aV;done)
  rename_i len el
  ·cases hj:T.info el with
   |none=>simp[hj,O.bad] at aV
   |some j=>
    simp only[hj] at aV ⊢
    cases hf:oV j.size (i.zero.map .p) (l.map fun (i,x)=>(i,u x)) with
    |none=>simp[hf,O.of,O.bad] at aV
    |some rQ=>
     obtain⟨hu,inf,z,h1,h2,h3,h4,h5,h6,h7,_⟩:=hT.info t i hi
     rw[hd] at hu
     obtain⟨_,aBV,z',k1,k2,_⟩:=hT.info el j hj
     obtain⟨a',h8,h9⟩:=AQ l (i.zero.map .p) rQ z.cells ⟨by simp;omega,fun k hk=>by
      have bT:k<i.zero.length:=by simpa using hk
      rw[i_ bT]
      exact .p _ _ ((h7 k bT).1.mono (fun a v e=>by cases e))⟩ hr hf
     have hb:P.built t (l.toArray.map fun (i,x)=>(i,e x)).toList=some a':=by
      unfold Program.built
      simp only[h1,hu,h4,k1,k2]
      simpa using h8
     exact⟨.agg a',run_build w t _ a' hb,by simpa [O.of] using ar.agg _ _ h9.1 h9.2⟩
  rename_i fs
  cases hf:de T t (i.zero.map .p) (l.map fun (i,x)=>(i,u x)) with
  |none=>simp[hf,O.of,O.bad] at aV
  |some rQ=>
   obtain⟨hu,inf,z,h1,h2,h3,h4,h5,h6,h7,_⟩:=hT.info t i hi
   rw[hd] at hu
   obtain⟨BN,hp⟩:=Ei (f:=fun f:Field=>(P.info? f.type).map fun i=>(f.offset,i.size)) (l:=fs.toList) (fun x hx=>by
    have:=(hT.fields t i fs hi hd).1 x hx
    cases tt:P.info? x.type with
    |none=>rw[tt] at this;cases this
    |some y=>simp)
   obtain⟨a',h8,h9⟩:=AP hT hu hp l (i.zero.map .p) rQ z.cells ⟨by simp;omega,fun k hk=>by
    have bT:k<i.zero.length:=by simpa using hk
    rw[i_ bT]
    exact .p _ _ ((h7 k bT).1.mono (fun a v e=>by cases e))⟩ hr hf
   have hb:P.built t (l.toArray.map fun (i,x)=>(i,e x)).toList=some a':=by
    unfold Program.built
    simp only[h1,hu,h4,hp]
    simpa using h8
   exact⟨.agg a',run_build w t _ a' hb,by simpa [O.of] using ar.agg _ _ h9.1 h9.2⟩
theorem Fx(hT:T.Ok P){s d:Nat}{x:AV}{v:Value}(aV:(AY T s d x).ok=true)(hr:ar C n x v):
  ∃u,(convert s d v).run P w=.ok u w∧ar C n (AY T s d x).v u:=by
 unfold AY at aV ⊢
 split at aV
 ·rename_i k k' m hd
  have h1:=bE hT hd
  have:=c9 hr;subst this
  cases hs:descOf T s with
  |none=>simp[hs,O.bad] at aV
  |some sd=>
   have h2:=bE hT hs
   cases sd<;>simp only[hs] at aV ⊢<;>try (simp[O.bad] at aV;done)
   exact⟨_,by simp[convert,run_underlying h1,run_underlying h2,Conv.intToInt],kQ _ _⟩
 ·rename_i b hd
  have h1:=bE hT hd
  have:=j0 hr;subst this
  cases hs:descOf T s with
  |none=>simp[hs,O.bad] at aV
  |some sd=>
   have h2:=bE hT hs
   cases sd<;>simp only[hs] at aV ⊢<;>try (simp[O.bad] at aV;done)
   exact⟨_,by simp[convert,run_underlying h1,run_underlying h2],.p _ _ (.str _)⟩
 ·simp[O.bad] at aV
theorem Ca{op:BinOp}{k:IntKind}{a b:Int}(aV:(dN op k a b).ok=true):∃u,
  (match op with
    | .shl| .shr=>Op.shift op k a k b
    | .add| .sub| .mul=>Op.intArith op k a b
    | .quo| .rem=>Op.intDiv op k a b
    | .and| .or| .xor| .andNot=>Op.intBits op k a b
    |_=>Op.intCmp op a b:Sem Value).run P w=.ok u w∧ar C n (dN op k a b).v u:=by
 cases op<;>simp only[dN,decide_eq_true_eq] at aV ⊢<;>first
  |exact⟨_,rfl,kQ _ _⟩
  |exact⟨_,rfl,i9 _⟩
  |exact⟨_,by simp[Op.intDiv,aV],kQ _ _⟩
  |exact⟨_,by simp only[Op.shift];rw[if_neg (by omega)];rfl,kQ _ _⟩
theorem Bu{op:BinOp}{a b:ByteArray}(aV:(Bv op a b).ok=true):∃u,(Op.stringOp op a b).run P w=.ok u w∧ar C n (Bv op a b).v u:=by
 cases op<;>simp only[Bv,decide_eq_true_eq,O.bad] at aV ⊢<;>first
  |exact⟨_,rfl,i9 _⟩
  |(cases aV;done)
  |(refine⟨.string (a++b), ?_,.p _ _ (.str _)⟩
    simp only[Op.stringOp]
    rw[if_neg (by simp[IntKind.max,IntKind.signed,IntKind.bits];omega)];rfl)
end
end Go.En
namespace Go.En
open Go.RowKit
section
variable {P:Program} {T:cX} {F:e_} {w:World} {C:Cx} {h rd:Hp} {n:Nat}
theorem It{t:Nat}{d:TypeDesc}{op:BinOp}{ox oy:Operand}{x y:AV}{a b:Value}(hd:P.underlying t=some d)(aV:(dF d op x y).ok=true)(hx:ar C n x a)(hy:ar C n y b):
  ∃u,(do eqGuard op t ox oy a b;binOp op t a b:Sem Value).run P w=.ok u w∧ar C n (dF d op x y).v u:=by
 unfold dF at aV ⊢
 split at aV
 ·rename_i k m k' m'
  have:=c9 hx;subst this
  have:=c9 hy;subst this
  have hg:(eqGuard op t ox oy (.int k m) (.int k' m')).run P w=.ok () w:=by unfold eqGuard;split<;>simp
  have key:∀(r:O),r.ok=true→(op≠ .shl∧op≠ .shr→k=k')→r=dN op k m m'→
    ∃u,(do eqGuard op t ox oy (.int k m) (.int k' m');binOp op t (.int k m) (.int k' m'):Sem Value).run P w=.ok u w∧ar C n r.v u:=by
   intro r hr hk he
   subst he
   obtain⟨u,h1,h2⟩:=Ca (P:=P) (w:=w) (C:=C) (n:=n) hr
   refine⟨u, ?_,h2⟩
   simp only[Sem.run_bind,hg,Result.andThen_ok]
   cases op<;>first
    |exact h1
    |(have:=hk ⟨by simp,by simp⟩;subst this;simpa [binOp] using h1)
  cases op<;>simp only at aV ⊢<;>first
   |exact key _ aV (fun h=>absurd rfl h.1) rfl
   |exact key _ aV (fun h=>absurd rfl h.2) rfl
   |(by_cases hk:k=k'
     ·rw[if_pos hk] at aV ⊢;exact key _ aV (fun _=>hk) rfl
     ·rw[if_neg hk] at aV;simp[O.bad] at aV)
 ·rename_i s s'
  have:=j0 hx;subst this
  have:=j0 hy;subst this
  have hg:(eqGuard op t ox oy (.string s) (.string s')).run P w=.ok () w:=by unfold eqGuard;split<;>simp
  obtain⟨u,h1,h2⟩:=Bu (P:=P) (w:=w) (C:=C) (n:=n) aV
  refine⟨u, ?_,h2⟩
  simp only[Sem.run_bind,hg,Result.andThen_ok]
  cases op<;>exact h1
 ·rename_i p q
  have:=fN hx;subst this
  have:=fN hy;subst this
  have hg:(eqGuard op t ox oy (.bool p) (.bool q)).run P w=.ok () w:=by unfold eqGuard;split<;>simp
  have he:(Op.equal t (.bool p) (.bool q)).run P w=.ok (p==q) w:=by
   cases d<;>first
    |exact run_equalIn_bool (P:=P) w 9999 t p q hd
    |(cases op<;>simp[O.bad] at aV)
  have e1:binOp .eql t (.bool p) (.bool q)=(do pure (.bool (←Op.equal t (.bool p) (.bool q)))):=rfl
  have e2:binOp .neq t (.bool p) (.bool q)=(do pure (.bool (!(←Op.equal t (.bool p) (.bool q))))):=rfl
  split at aV
  ·exact⟨_,by rw[e1];simp[hg,he],i9 _⟩
  ·exact⟨_,by rw[e2];simp[hg,he],i9 _⟩
  ·simp[O.bad] at aV
 ·rename_i q
  have hb:b=.slice none 0 0:=by cases cn hy;rfl
  subst hb
  unfold oz at aV ⊢
  have key:∀bb,isNil q=some bb→∃o l c,a=.slice o l c∧o.isNone=bb:=by
   intro bb hq
   unfold isNil at hq
   split at hq<;>cases hq
   ·cases cn hx;exact⟨_,_,_,rfl,rfl⟩
   ·cases cn hx;exact⟨_,_,_,rfl,rfl⟩
   ·cases cn hx;exact⟨_,_,_,rfl,rfl⟩
  have he:∀e o l c,P.underlying t=some (.slice e)→(Op.equal t (.slice o l c) (.slice none 0 0)).run P w=.ok o.isNone w:=by
   intro e o l c hd
   have gen:∀k,(Op.equalIn (k+1) t (.slice o l c) (.slice none 0 0)).run P w=.ok o.isNone w:=by
    intro k
    rw[Op.equalIn]
    rw[Sem.run_bind,run_underlying hd]
    cases o<;>rfl
   exact gen 9999
  have My:∀e o l c,P.underlying t=some (.slice e)→(eqGuard op t ox oy (.slice o l c) (.slice none 0 0)).run P w=.ok () w:=by
   intro e o l c hd
   unfold eqGuard
   split<;>simp
  have e1:∀o l c,binOp .eql t (.slice o l c) (.slice none 0 0)=(do pure (.bool (←Op.equal t (.slice o l c) (.slice none 0 0)))):=fun _ _ _=>rfl
  have e2:∀o l c,binOp .neq t (.slice o l c) (.slice none 0 0)=(do pure (.bool (!(←Op.equal t (.slice o l c) (.slice none 0 0))))):=fun _ _ _=>rfl
  split at aV
  ·rename_i e bb hq
   obtain⟨o,l,c,rfl,rfl⟩:=key _ hq
   exact⟨_,by rw[e1];simp[My e o l c hd,he e o l c hd],i9 _⟩
  ·rename_i e bb hq
   obtain⟨o,l,c,rfl,rfl⟩:=key _ hq
   exact⟨_,by rw[e2];simp[My e o l c hd,he e o l c hd],i9 _⟩
  ·simp[O.bad] at aV
 ·simp[O.bad] at aV
theorem Ke{op:UnOp}{x:AV}{a:Value}(aV:(VO op x).ok=true)(hx:ar C n x a):∃u,(Op.unary op a).run P w=.ok u w∧ar C n (VO op x).v u:=by
 unfold VO at aV ⊢
 split at aV
 ·have:=fN hx;subst this;exact⟨_,rfl,i9 _⟩
 ·have:=c9 hx;subst this;exact⟨_,rfl,kQ _ _⟩
 ·have:=c9 hx;subst this;exact⟨_,rfl,kQ _ _⟩
 ·simp[O.bad] at aV
theorem LO(hT:T.Ok P){t:Nat}{x y:AV}{a b:Value}{r:Bool}{d:Nat}(he:Sk (descOf T t) x y=some r)(hx:ar C n x a)(hy:ar C n y b):
  (Op.equalIn (d+1) t a b).run P w=.ok r w:=by
 cases hd:descOf T t with
 |none=>rw[hd] at he;cases he
 |some td=>
  have h1:=bE hT hd
  rw[hd] at he
  unfold Sk at he
  split at he
  ·rename_i k0 k m k' m' heq
   cases heq
   have:=c9 hx;subst this
   have:=c9 hy;subst this
   split at he
   ·cases he;simp[Op.equalIn,run_underlying h1, *]
   ·cases he
  ·rename_i p q heq
   cases heq
   have:=fN hx;subst this
   have:=fN hy;subst this
   cases he;simp[Op.equalIn,run_underlying h1]
  ·rename_i p q heq
   cases heq
   have:=j0 hx;subst this
   have:=j0 hy;subst this
   cases he
   rw[←beq_toListBytes]
   simp[Op.equalIn,run_underlying h1]
  ·cases he
theorem xj(hT:T.Ok P){t m:Nat}{vs:Array Value}{td:TypeDesc}(hd:descOf T t=some td)(Jy:td=.bool∨td=.string∨∃k,td=.int k)(bW:m<vs.size):
  (part t vs m).run P w=.ok (vs.getD m Go.undef) w:=by
 unfold descOf at hd
 cases hi:T.info t with
 |none=>rw[hi] at hd;cases hd
 |some i=>
  rw[hi] at hd
  have H4:=tS (w:=w) hT hi
  have Uq:i.desc=td:=by simpa using hd
  have ha:aO i.desc=false:=by rw[Uq];rcases Jy with rfl|rfl|⟨k,rfl⟩<;>rfl
  obtain⟨u,hu⟩:∃u,vs[m]? =some u:=⟨_,getD_some bW⟩
  simp[part,H4,ha,hu,Array.getD_eq_getD_getElem?]
theorem yx(hT:T.Ok P){d:Nat}:∀(fs:List Field) (m:Nat) (xs ys:List AV) (as bs:Array Value) (r:Bool),cg T m fs xs ys=some r→
  as.size=m+xs.length→bs.size=m+ys.length→(∀k,k<xs.length→ar C n (xs.getD k .undef) (as.getD (m+k) Go.undef))→(∀k,k<ys.length→ar C n (ys.getD k .undef) (bs.getD (m+k) Go.undef))→
  (Op.eqFields (d+1) as bs fs).run P w=.ok r w
 |[],m,[],[],as,bs,r,he,_,_,_,_=>by simp[cg] at he;subst he;rfl
 |[],m,x::xs,ys,as,bs,r,he,_,_,_,_=>by simp[cg] at he
 |[],m,[],y::ys,as,bs,r,he,_,_,_,_=>by simp[cg] at he
 |f::fs,m,[],ys,as,bs,r,he,_,_,_,_=>by simp[cg] at he
 |f::fs,m,x::xs,[],as,bs,r,he,_,_,_,_=>by simp[cg] at he
 |f::fs,m,x::xs,y::ys,as,bs,r,he,h1,h2,h3,h4=>by
  simp only[cg] at he
  split at he
  ·rename_i hc
   obtain⟨hn,ho⟩:=hc
   simp only[Option.bind_eq_some_iff,Option.map_eq_some_iff] at he
   obtain⟨b,h5,c,h6,rfl⟩:=he
   have hx:=h3 0 (by simp)
   have hy:=h4 0 (by simp)
   simp at hx hy h1 h2
   have XC:∃td,descOf T f.type=some td∧(td=.bool∨td=.string∨∃k,td=.int k):=by
    cases hd:descOf T f.type with
    |none=>rw[hd] at h5;simp[Sk] at h5
    |some td=>
     refine⟨td,rfl, ?_⟩
     rw[hd] at h5
     cases td<;>first|exact .inl rfl|exact .inr (.inl rfl)|exact .inr (.inr ⟨_,rfl⟩)|(simp[Sk] at h5)
   obtain⟨td,hd,Jy⟩:=XC
   have p1:=xj (P:=P) (w:=w) (vs:=as) (m:=m) hT hd Jy (by omega)
   have p2:=xj (P:=P) (w:=w) (vs:=bs) (m:=m) hT hd Jy (by omega)
   have ih:=yx (d:=d) hT fs (m+1) xs ys as bs c h6 (by omega) (by omega)
    (fun k hk=>by have:=h3 (k+1) (by simpa using hk);simpa [Nat.add_assoc,Nat.add_comm 1] using this)
    (fun k hk=>by have:=h4 (k+1) (by simpa using hk);simpa [Nat.add_assoc,Nat.add_comm 1] using this)
   have sN:f.offset=m:=ho
   rw[←sN] at p1 p2 hx hy
   have h8:=LO (P:=P) (w:=w) (d:=d) hT h5 hx hy
   rw[Op.eqFields,if_pos hn]
   simp only[Sem.run_bind,p1,p2,Result.andThen_ok,Sem.run_ite,Sem.run_pure]
   cases b<;>simp[h8,ih]
  ·cases he
theorem vA(hT:T.Ok P){t:Nat}{fs:Array Field}{xs ys:List AV}{as bs:Array Value}{ox oy:Operand}{op:BinOp}{r:Bool}(hd:descOf T t=some (.struct fs))
  (he:cg T 0 fs.toList xs ys=some r)(hx:m0 C n xs as)(hy:m0 C n ys bs)(zn:op=.eql∨op=.neq):
  (do eqGuard op t ox oy (.agg as) (.agg bs);binOp op t (.agg as) (.agg bs):Sem Value).run P w=.ok (.bool (if op=.eql then r else !r)) w:=by
 have h1:=bE hT hd
 have cm:P.stoodInHeld t=false:=by
  unfold descOf at hd
  cases hi:T.info t with
  |none=>rw[hi] at hd;cases hd
  |some i=>rw[hi] at hd;exact(hT.fields t i fs hi (by simpa using hd)).2
 have QZ:P.fieldsOf t=fs:=by simp[Program.fieldsOf,h1]
 have h2:=run_equalIn_struct (P:=P) w 9999 t as bs (by rw[QZ];exact h1) cm
 rw[QZ] at h2
 have h3:=yx (P:=P) (w:=w) (C:=C) (n:=n) (d:=9998) hT fs.toList 0 xs ys as bs r he (by rw[hx.1];simp) (by rw[hy.1];simp) (fun k hk=>by simpa using hx.2 k hk) (fun k hk=>by simpa using hy.2 k hk)
 have heq:(Op.equal t (.agg as) (.agg bs)).run P w=.ok r w:=h2.trans h3
 have WO:P.eqGuardType P.depth t=false:=by
  have ayT:∃d,P.depth=d+1+1:=⟨2*(P.types.size+Made.depth),rfl⟩
  obtain⟨d,XC⟩:=ayT
  rw[XC]
  rw[Program.eqGuardType,h1]
  have plain:∀(l:List Field) (m:Nat) (xs ys:List AV) (r:Bool),cg T m l xs ys=some r→(l.any fun f=>f.name != "_" &&P.eqGuardType (d+1) f.type)=false:=by
   intro l
   induction l with
   |nil=>intros;rfl
   |cons f l ih=>
    intro m xs ys r he
    cases xs with
    |nil=>simp[cg] at he
    |cons x xs=>
     cases ys with
     |nil=>simp[cg] at he
     |cons y ys=>
      simp only[cg] at he
      split at he
      ·simp only[Option.bind_eq_some_iff,Option.map_eq_some_iff] at he
       obtain⟨b,h5,c,h6,rfl⟩:=he
       simp only[List.any_cons,ih _ _ _ _ h6,Bool.or_false,Bool.and_eq_false_iff]
       right
       cases hd:descOf T f.type with
       |none=>rw[hd] at h5;simp[Sk] at h5
       |some td=>
        have h9:=bE hT hd
        rw[hd] at h5
        cases td<;>first|(simp[Program.eqGuardType,h9];done)|(simp[Sk] at h5)
      ·cases he
  show(fs.any fun f=>f.name != "_" &&P.eqGuardType (d+1) f.type)=false
  rw[←Array.any_toList]
  exact plain fs.toList 0 xs ys r he
 have hg:(eqGuard op t ox oy (.agg as) (.agg bs)).run P w=.ok () w:=by
  unfold eqGuard
  rcases zn with rfl|rfl<;>simp[WO]
 have e1:binOp .eql t (.agg as) (.agg bs)=(do pure (.bool (←Op.equal t (.agg as) (.agg bs)))):=rfl
 have e2:binOp .neq t (.agg as) (.agg bs)=(do pure (.bool (!(←Op.equal t (.agg as) (.agg bs))))):=rfl
 rcases zn with rfl|rfl
 ·rw[e1];simp[hg,heq]
 ·rw[e2];simp[hg,heq]
theorem wv{tm:Tm}{a:Act}(ht:∀i,ar C n (look tm i) (a.tmps.getD i Go.undef)){l:List Operand}(hk:ef true tm l=true):
  ∀k,k<l.length→ar C n ((gG tm l).getD k .undef) ((l.map a.eval).getD k Go.undef):=by
 intro k bT
 simp only[ef,List.all_eq_true] at hk
 have h1:=hk _ (List.getElem_mem bT)
 have h2:=j9 (a:=a) ht h1
 simpa [gG,List.getD_eq_getElem?_getD,bT] using h2
theorem DY{b:Bool}{x y:AV}{u v:Value}(aV:(sf b x y).ok=true)(hx:ar C n x u)(hy:ar C n y v):ar C n (sf b x y).v (if b then u else v):=by
 have M7:uk true x=true→ar C n (uv x) u:=GL hx
 have M4:uk true y=true→ar C n (uv y) v:=GL hy
 revert aV M7 M4
 unfold sf
 generalize uv x=x'
 generalize uv y=y'
 split
 ·intro aV M7 M4
  simp only[Bool.and_eq_true,Bool.or_eq_true,Bool.not_eq_true'] at aV
  cases b
  ·simpa using M4 (by simpa using aV.2)
  ·simpa using M7 (by simpa using aV.1)
 ·intro aV M7 M4
  cases b
  ·simpa using M4 (by simpa using aV)
  ·simpa using M7 (by simpa using aV)
theorem xF{mx:Bool}{l:List AV}{vs:List Value}{x:AV}(he:sB mx l=some x)(hl:vs.length=l.length)(hr:∀k,k<l.length→ar C n (l.getD k .undef) (vs.getD k Go.undef)):
  ∃u,(if mx then Builtin.max_ #[] 0 vs.toArray else Builtin.min_ #[] 0 vs.toArray:Sem Value).run P w=.ok u w∧ar C n x u:=by
 unfold sB at he
 split at he<;>cases he
 ·match vs,hl with
  |[v],_=>
   have:=c9 (by simpa using hr 0 (by simp));subst this
   cases mx<;>exact⟨_,rfl,kQ _ _⟩
 ·match vs,hl with
  |[v,u],_=>
   have:=c9 (by simpa using hr 0 (by simp));subst this
   have:=c9 (by simpa using hr 1 (by simp));subst this
   cases mx
   ·exact⟨_,by simp[Builtin.min_,Builtin.min2],kQ _ _⟩
   ·exact⟨_,by simp[Builtin.max_,Builtin.max2],kQ _ _⟩
end
end Go.En
namespace Go.En
open Go.RowKit Go.MapKept
section
variable {P:Program} {T:cX} {F:e_} {w:World} {C:Cx} {h rd:Hp} {n:Nat}
theorem oA(hT:T.Ok P){t:Nat}{kd:TypeDesc}{i:TI}(hd:fT T t=some (kd,i)):∃k e,P.underlying t=some (.map k e)∧P.underlying k=some kd∧T.info e=some i:=by
 unfold fT at hd
 split at hd
 ·rename_i k e h1
  simp only[Option.bind_eq_some_iff,Option.map_eq_some_iff] at hd
  obtain⟨d,h2,j,h3,h4⟩:=hd
  cases h4
  exact⟨k,e,bE hT h1,bE hT h2,h3⟩
 ·cases hd
theorem jy{M:Addr→Option Value}{d:TypeDesc}{k:PV}{v:Value}(hk:dK d k=true)(hr:bu M k v):IsKey d v:=by
 unfold dK at hk
 split at hk
 ·cases hr with|int=>exact(by simpa using hk:_=_)
 ·cases hr;exact trivial
 ·cases hr;exact trivial
 ·cases hk
theorem yy{M:Addr→Option Value}{d:TypeDesc}{k k':PV}{v v':Value}{b:Bool}(hb:Ij k k'=some b)(hk:dK d k=true)(hr:bu M k v)(bT:dK d k'=true)(sM:bu M k' v'):
  Instr.sameNow d v v'=some b:=by
 cases d<;>try (simp[dK] at hk;done)
 ·cases k<;>try (simp[dK] at hk;done)
  cases k'<;>try (simp[dK] at bT;done)
  cases hr;cases sM
  simpa [Ij,Instr.sameNow] using hb
 ·cases k<;>try (simp[dK] at hk;done)
  cases k'<;>try (simp[dK] at bT;done)
  cases hr;cases sM
  simpa [Ij,Instr.sameNow] using hb
 ·cases k<;>try (simp[dK] at hk;done)
  cases k'<;>try (simp[dK] at bT;done)
  cases hr;cases sM
  simpa [Ij,Instr.sameNow] using hb
def nP(M:Addr→Option Value):List (PV×PV)→List MapEntry→Prop
 |[],[]=>True
 |p::r,e::l=>bu M p.1 e.key∧bu M p.2 e.val∧nP M r l
 |_,_=>False
theorem nP.length{M:Addr→Option Value}:∀{es:List (PV×PV)} {l:List MapEntry},nP M es l→l.length=es.length
 |[],[],_=>rfl
 |_::_,_::_,hr=>by simp[nP.length hr.2.2]
 |[],_::_,hr=>hr.elim
 |_::_,[],hr=>hr.elim
theorem nP.of{M:Addr→Option Value}:∀{es:List (PV×PV)} {l:List MapEntry},l.length=es.length→(∀(k:Nat) (e:MapEntry),l[k]? =some e→∃p:PV×PV,es[k]? =some p∧bu M p.1 e.key∧bu M p.2 e.val)→nP M es l
 |[],[],_,_=>trivial
 |p::r,e::l,h1,h2=>by
  obtain⟨q,h3,h4,h5⟩:=h2 0 e rfl
  cases h3
  exact⟨h4,h5,nP.of (by simpa using h1) (fun k e' hk=>by simpa using h2 (k+1) e' (by simpa using hk))⟩
 |[],_::_,h1,_=>by simp at h1
 |_::_,[],h1,_=>by simp at h1
theorem nP.get{M:Addr→Option Value}:∀{es:List (PV×PV)} {l:List MapEntry},nP M es l→∀(k:Nat) (e:MapEntry),l[k]? =some e→∃p:PV×PV,es[k]? =some p∧bu M p.1 e.key∧bu M p.2 e.val
 |[],[],_,k,e,hk=>by simp at hk
 |p::r,x::l,hr,0,e,hk=>by cases hk;exact⟨p,rfl,hr.1,hr.2.1⟩
 |p::r,x::l,hr,k+1,e,hk=>by simpa using hr.2.2.get k e (by simpa using hk)
 |[],_::_,hr,_,_,_=>hr.elim
 |_::_,[],hr,_,_,_=>hr.elim
theorem oI{d:TypeDesc}{p:PV×PV}{es:List (PV×PV)}(hk:da d (p::es)=true):dK d p.1=true∧da d es=true:=by simpa [da] using hk
theorem xG{M:Addr→Option Value}{d:TypeDesc}{k:PV}{v:Value}(hk:dK d k=true)(hr:bu M k v):∀{es:List (PV×PV)} {l:List MapEntry} {r:Option PV} (i:Nat),nP M es l→da d es=true→
  nV k es=some r→(r=none∧Instr.findNow d v l i=some none)∨∃x j u,r=some x∧Instr.findNow d v l i=some (some (j,u))∧bu M x u
 |[],[],r,i,_,_,hg=>by simp[nV] at hg;exact .inl ⟨hg.symm,rfl⟩
 |p::es,e::l,r,i,hm,tv,hg=>by
  obtain⟨h1,h2⟩:=oI tv
  simp only[nV,Option.bind_eq_some_iff] at hg
  obtain⟨b,h3,h4⟩:=hg
  have h5:=yy h3 hk hr h1 hm.1
  cases b with
  |true=>
   simp at h4;subst h4
   exact .inr ⟨p.2,i,e.val,rfl,by simp[Instr.findNow,h5],hm.2.1⟩
  |false=>
   simp at h4
   rcases xG hk hr (i+1) hm.2.2 h2 h4 with⟨h6,h7⟩|⟨x,j,u,h6,h7,h8⟩
   ·exact .inl ⟨h6,by simp[Instr.findNow,h5,h7]⟩
   ·exact .inr ⟨x,j,u,h6,by simp[Instr.findNow,h5,h7],h8⟩
 |[],_::_,_,_,hm,_,_=>hm.elim
 |_::_,[],_,_,hm,_,_=>hm.elim
theorem Ed{M:Addr→Option Value}{d:TypeDesc}{k x:PV}{v u:Value}(hk:dK d k=true)(hr:bu M k v)(hx:bu M x u):∀{es lA:List (PV×PV)} {l:List MapEntry} (i:Nat),nP M es l→da d es=true→
  p5 k x es=some lA→(Instr.findNow d v l i=some none∧∀born,nP M lA (l++[⟨v,u,born⟩]))∨
   ∃j e,Instr.findNow d v l i=some (some (i+j,e.val))∧l[j]? =some e∧e.key=v∧nP M lA (l.set j {e with key:=v,val:=u})
 |[],lA,[],i,_,_,hg=>by simp[p5] at hg;subst hg;exact .inl ⟨rfl,fun born=>⟨hr,hx,trivial⟩⟩
 |p::es,lA,e::l,i,hm,tv,hg=>by
  obtain⟨h1,h2⟩:=oI tv
  simp only[p5,Option.bind_eq_some_iff] at hg
  obtain⟨b,h3,h4⟩:=hg
  have h5:=yy h3 hk hr h1 hm.1
  cases b with
  |true=>
   simp at h4;subst h4
   obtain⟨b',h6,h7⟩:=sameNow_of_keys (jy hk hr) (jy h1 hm.1)
   rw[h5] at h6;cases h6
   exact .inr ⟨0,e,by simp[Instr.findNow,h5],rfl,(h7.1 rfl).symm,⟨hr,hx,hm.2.2⟩⟩
  |false=>
   simp only[Bool.false_eq_true,if_false,Option.map_eq_some_iff] at h4
   obtain⟨es2,h4,rfl⟩:=h4
   rcases Ed hk hr hx (i+1) hm.2.2 h2 h4 with⟨h6,h7⟩|⟨j,e',h6,h7,h8,h9⟩
   ·exact .inl ⟨by simp[Instr.findNow,h5,h6],fun born=>⟨hm.1,hm.2.1,h7 born⟩⟩
   ·exact .inr ⟨j+1,e',by simp[Instr.findNow,h5,h6];omega,by simpa using h7,h8,⟨hm.1,hm.2.1,h9⟩⟩
 |[],_,_::_,_,hm,_,_=>hm.elim
 |_::_,_,[],_,hm,_,_=>hm.elim
theorem Ef{M:Addr→Option Value}{d:TypeDesc}{k:PV}{v:Value}(hk:dK d k=true)(hr:bu M k v):∀{es lA:List (PV×PV)} {l:List MapEntry} (i:Nat),nP M es l→da d es=true→
  Le k es=some lA→(Instr.findNow d v l i=some none∧nP M lA l)∨∃j u,Instr.findNow d v l i=some (some (i+j,u))∧j<l.length∧nP M lA (l.eraseIdx j)
 |[],lA,[],i,_,_,hg=>by simp[Le] at hg;subst hg;exact .inl ⟨rfl,trivial⟩
 |p::es,lA,e::l,i,hm,tv,hg=>by
  obtain⟨h1,h2⟩:=oI tv
  simp only[Le,Option.bind_eq_some_iff] at hg
  obtain⟨b,h3,h4⟩:=hg
  have h5:=yy h3 hk hr h1 hm.1
  cases b with
  |true=>
   simp at h4;subst h4
   exact .inr ⟨0,e.val,by simp[Instr.findNow,h5],by simp,by simpa using hm.2.2⟩
  |false=>
   simp only[Bool.false_eq_true,if_false,Option.map_eq_some_iff] at h4
   obtain⟨es2,h4,rfl⟩:=h4
   rcases Ef hk hr (i+1) hm.2.2 h2 h4 with⟨h6,h7⟩|⟨j,u,h6,h7,h8⟩
   ·exact .inl ⟨by simp[Instr.findNow,h5,h6],⟨hm.1,hm.2.1,h7⟩⟩
   ·exact .inr ⟨j+1,u,by simp[Instr.findNow,h5,h6];omega,by simpa using h7,by simpa using ⟨hm.1,hm.2.1,h8⟩⟩
 |[],_,_::_,_,hm,_,_=>hm.elim
 |_::_,_,[],_,hm,_,_=>hm.elim
theorem sC(hm:Mem F C h w){id:Nat}{es:List (PV×PV)}{v:Value}(ho:h.at id=.map es)(hr:ar C h.length (.map id) v):
  ∃r en clock,v=.map (some r)∧id<h.length∧C.μ id=.map r∧w.heap[r]? =some (.map en clock)∧nP C.M es en.toList:=by
 cases hr with
 |map _ r h1 h2=>
  have h3:=hm.objs id h1
  rw[ho,h2] at h3
  obtain⟨en,clock,h4,h5,h6⟩:=h3
  exact⟨r,en,clock,rfl,h1,h2,h4,nP.of (by simpa using h5) (fun k e hk=>h6 k e (by simpa using hk))⟩
theorem zz(hT:T.Ok P)(hm:Mem F C h w)(jM:∀id,rd.at id≠ .dead→h.at id=rd.at id){t:Nat}{m k:AV}{c:Bool}{mv kv:Value}(aV:(iy T rd t m k c).ok=true)
  (hx:ar C h.length m mv)(hk:ar C h.length k kv):∃u,(Instr.lookup t mv kv c).run P w=.ok u w∧ar C h.length (iy T rd t m k c).v u:=by
 unfold iy at aV ⊢
 split at aV
 ·rename_i id k kd i hd
  split at aV
  ·rename_i es ho
   split at aV
   ·rename_i hc
    obtain⟨h1,h2,h3⟩:=hc
    obtain⟨kt,et,g1,g2,g3⟩:=oA hT hd
    have lM:h.at id=.map es:=by rw[jM id (by rw[ho];simp),ho]
    obtain⟨r,en,clock,rfl,_,_,g4,g5⟩:=sC hm lM hx
    have PT:=cn hk
    have JE:=jy h1 PT
    obtain⟨_,inf,z,z1,z2,_,z3,z4,z5,z6,_,z7⟩:=hT.info et i g3
    split at aV
    ·rename_i v he
     rcases xG h1 PT 0 g5 h2 he with⟨e,_⟩|⟨x,j,u,e,h4,h5⟩
     ·cases e
     cases e
     simp only[ho,h1,h2,h3,he,and_self,if_true]
     cases c with
     |true=>exact⟨.tuple #[u,.bool true],by simp[Instr.lookup,run_underlying g1,MapKept.run_getObj_map g4,run_checkKey g2 JE,run_findKey g2 h4],.tup _ _ rfl (fun k bT=>by
       match k,bT with
       |0,_=>exact .p _ _ h5
       |1,_=>exact i9 true)⟩
     |false=>exact⟨u,by simp[Instr.lookup,run_underlying g1,MapKept.run_getObj_map g4,run_checkKey g2 JE,run_findKey g2 h4],.p _ _ h5⟩
    ·rename_i z' he hz
     rcases xG h1 PT 0 g5 h2 he with⟨_,h4⟩|⟨x,j,u,e,_⟩
     ·have hzv:(zeroValue et).run P w=.ok z w:=by simp[zeroValue,typeInfo,z1,z3]
      have hcz:=(z7 h3).2
      have hzr:bu C.M z' z:=by
       have:=(z6 0 (by rw[hz];simp)).1
       rw[hz,hcz] at this
       exact bu.mono (fun _ _ e=>by cases e) this
      simp only[ho,h1,h2,h3,he,hz,and_self,if_true]
      cases c with
      |true=>exact⟨.tuple #[z,.bool false],by simp[Instr.lookup,run_underlying g1,MapKept.run_getObj_map g4,run_checkKey g2 JE,run_findKey g2 h4,hzv],.tup _ _ rfl (fun k bT=>by
        match k,bT with
        |0,_=>exact .p _ _ hzr
        |1,_=>exact i9 false)⟩
      |false=>exact⟨z,by simp[Instr.lookup,run_underlying g1,MapKept.run_getObj_map g4,run_checkKey g2 JE,run_findKey g2 h4,hzv],.p _ _ hzr⟩
     ·cases e
    ·cases aV
   ·cases aV
  ·cases aV
 ·cases aV
end
end Go.En
namespace Go.En
open Go.RowKit
section
variable {P:Program} {T:cX} {F:e_} {w:World} {C:Cx} {h rd:Hp} {n:Nat}
def Za(P:Program)(a:Act)(o:Oper)(w:World)(C:Cx)(n:Nat)(x:AV):Prop:=∃v,(execOp a.eval o).run P w=.ok (.value v) w∧ar C n x v
theorem cU{a:Act}{o:Oper}{s:Sem Value}{x:AV}(he:execOp a.eval o=(do pure (.value (←s))))(hs:∃u,s.run P w=.ok u w∧ar C n x u):Za P a o w C n x:=by
 obtain⟨u,h1,h2⟩:=hs
 exact⟨u,by rw[he];simp[h1],h2⟩
theorem yA{tm:Tm}{x:Operand}(hk:ef true tm [x]=true):uk true (aX tm x)=true:=by simpa [ef] using hk
theorem Fk{tm:Tm}{x y:Operand}(hk:ef true tm [x,y]=true):uk true (aX tm x)=true∧uk true (aX tm y)=true:=by simpa [ef] using hk
theorem K3(hT:T.Ok P)(hG:∀g cs,T.glob g=some cs→C.L.glob g=some cs)(hm:Mem F C h w)(jM:∀id,rd.at id≠ .dead→h.at id=rd.at id){tm:Tm}{a:Act}(ht:∀i,ar C h.length (look tm i) (a.tmps.getD i Go.undef))
  {o:Oper}{r:O}(p7:∀t len parts,o.op≠ .buildSlice t len parts)(h1:sr T rd tm o.op=some r)(aV:r.ok=true)(hk:gu true tm o.op=true):Za P a o w C h.length r.v:=by
 obtain⟨dst,op,type,pos,after,guard⟩:=o
 cases op<;>simp only[sr] at h1<;>try (cases h1;done)
 case buildSlice t len parts=>exact absurd rfl (p7 t len parts)
 case move x=>
  cases h1
  exact⟨_,rfl,j9 ht (yA hk)⟩
 case assign x=>
  cases h1
  exact⟨_,rfl,j9 ht (yA hk)⟩
 case pick c x y=>
  have h2:=j9 ht (show uk true (aX tm c)=true from hk)
  split at h1
  ·rename_i b hb
   cases h1
   rw[hb] at h2
   have h3:=fN h2
   refine⟨_, ?_,DY aV (wz ht x) (wz ht y)⟩
   simp[execOp,h3,asBool]
  ·cases h1
 case load t x=>
  cases h1
  exact cU rfl (vf hT hG hm jM aV (j9 ht (yA hk)))
 case nilCheck x=>
  have h2:=j9 ht (yA hk)
  generalize hv:a.eval x=v at h2
  split at h1<;>cases h1
  ·rename_i e
   rw[e] at h2
   cases cn h2 with
   |ptr _ _ B o f h3 h4=>exact⟨_,by simp only[execOp,hv];rfl,.p _ _ (.ptr _ _ B o f h3 h4)⟩
  ·rename_i e
   rw[e] at h2
   cases h2 with
   |ref _ _ B h3 h4=>exact⟨_,by simp only[execOp,hv];rfl,.ref _ _ B h3 h4⟩
  ·rename_i e
   rw[e] at h2
   cases h2 with
   |elt _ _ _ _ B o cap sz h3 h4=>exact⟨_,by simp only[execOp,hv];rfl,.elt _ _ _ _ B o cap sz h3 h4⟩
   |eltS _ _ _ _ g' B o h3 h4 h5=>exact⟨_,by simp only[execOp,hv];rfl,.eltS _ _ _ _ g' B o h3 h4 h5⟩
 case binOp op t x y yt=>
  obtain⟨jG,jA⟩:=Fk hk
  have hx:=j9 ht jG
  have hy:=j9 ht jA
  split at h1
  ·rename_i xs ys e1 e2
   rw[e1] at hx;rw[e2] at hy
   generalize WH:a.eval x=v1 at hx
   generalize WG:a.eval y=v2 at hy
   cases hx with
   |agg _ as h3 h4=>
    cases hy with
    |agg _ bs h5 h6=>
     split at h1
     ·rename_i fs hd
      cases h1
      cases he:cg T 0 fs.toList xs ys with
      |none=>rw[he] at aV;simp[O.of,O.bad] at aV
      |some b=>
       refine cU rfl ⟨_,by rw[WH,WG];exact vA hT hd he ⟨h3,h4⟩ ⟨h5,h6⟩ (.inl rfl),by simpa [O.of] using i9 b⟩
     ·rename_i fs hd
      cases h1
      cases he:cg T 0 fs.toList xs ys with
      |none=>rw[he] at aV;simp[O.of,O.bad] at aV
      |some b=>
       refine cU rfl ⟨_,by rw[WH,WG];exact vA hT hd he ⟨h3,h4⟩ ⟨h5,h6⟩ (.inr rfl),by simpa [O.of] using i9 (!b)⟩
     ·cases h1
  ·split at h1
   ·rename_i d hd
    cases h1
    exact cU rfl (It (bE hT hd) aV hx hy)
   ·cases h1
 case unOp op t x=>
  cases h1
  exact cU rfl (Ke aV (j9 ht (yA hk)))
 case convert s d x=>
  cases h1
  exact cU rfl (Fx hT aV (j9 ht (yA hk)))
 case makeFunc fn first abY=>
  cases fn<;>simp only at h1<;>try (cases h1;done)
  rename_i f
  split at h1
  ·rename_i hf
   cases h1
   have Cm:first= #[]:=Array.eq_empty_of_size_eq_zero hf
   subst Cm
   refine⟨.func (.func f) #[] (abY.map a.eval),by simp[execOp,Instr.makeFunc],.fn _ _ _ (by simp[gG]) (fun k bT=> ?_)⟩
   have:=wv ht (show ef true tm abY.toList=true by simpa [gu,Op.operands] using hk) k (by simpa [gG] using bT)
   simpa [List.getD_eq_getElem?_getD,Array.getD_eq_getD_getElem?] using this
  ·split at h1
   case isFalse=>cases h1
   rename_i hc
   have hc0:abY= #[]:=Array.eq_empty_of_size_eq_zero hc
   subst hc0
   simp only[Option.map_eq_some_iff] at h1
   obtain⟨ps,h2,rfl⟩:=h1
   have h3:=(pQ (C:=C) (n:=0) h2).1
   refine⟨.func (.func f) (first.map a.eval) #[],by simp[execOp,Instr.makeFunc],.p _ _ (.fb _ _ _ (by simp[h3,gG]) (fun k bT=> ?_))⟩
   have jA:k<(gG tm first.toList).length:=by rw[←h3];exact bT
   have:=wv ht (show ef true tm first.toList=true by simpa [gu,Op.operands] using hk) k (by simpa [gG] using jA)
   have:=(pQ (C:=C) h2).2 k jA _ this
   simpa [List.getD_eq_getElem?_getD,Array.getD_eq_getD_getElem?] using this
 case slice t x lo hi mx=>
  cases mx<;>simp only at h1<;>try (cases h1;done)
  cases h1
  have tv:∀y∈[x]++lo.toList++hi.toList,uk true (aX tm y)=true:=by
   have:ef true tm (#[x]++lo.toArray++hi.toArray++(none:Option Operand).toArray).toList=true:=hk
   simp only[ef,List.all_eq_true] at this
   intro y hy
   exact this y (by simpa using hy)
  have hx:=j9 ht (tv x (by simp))
  refine cU (s:=Instr.sliceAt t (a.eval x) (lo.map a.eval) (hi.map a.eval) none) rfl (BB hT hm jM aV hx ?_ ?_)
  ·cases lo with
   |none=>exact trivial
   |some y=>exact j9 ht (tv y (by simp))
  ·cases hi with
   |none=>exact trivial
   |some y=>exact j9 ht (tv y (by simp))
 case fieldAddr s x f=>
  cases h1
  exact cU rfl (CB hT aV (j9 ht (yA hk)))
 case field s x f=>
  cases h1
  exact cU rfl (D6 hT aV (j9 ht (yA hk)))
 case indexAddr t x i=>
  cases h1
  obtain⟨jG,jA⟩:=Fk hk
  exact cU rfl (uj hT hG hm jM aV (j9 ht jG) (j9 ht jA))
 case index t x i=>
  cases h1
  obtain⟨jG,jA⟩:=Fk hk
  exact cU rfl (Cb hT aV (j9 ht jG) (j9 ht jA))
 case build t parts=>
  cases h1
  have:=s9 (P:=P) (w:=w) (C:=C) (n:=h.length) (T:=T) (t:=t) (l:=parts.toList) (u:=fun x=>uv (aX tm x)) (e:=a.eval) hT aV (fun p hp=>by
   have bT:ef true tm (parts.toList.map (·.2))=true:=hk
   simp only[ef,List.all_eq_true] at bT
   exact j9 ht (bT p.2 (List.mem_map_of_mem hp)))
  refine cU (s:=Instr.build t (parts.map fun (i,x)=>(i,a.eval x))) rfl ?_
  simpa using this
 case lookup t m k c=>
  cases h1
  obtain⟨jG,jA⟩:=Fk hk
  exact cU rfl (zz hT hm jM aV (j9 ht jG) (j9 ht jA))
 case next it isS=>
  cases isS<;>simp only at h1<;>try (cases h1;done)
  have hx:=j9 ht (yA hk)
  generalize hv:a.eval it=v at hx
  split at h1
  case h_2=>cases h1
  rename_i id e
  split at h1
  case h_2=>cases h1
  rename_i ho
  cases h1
  rw[e] at hx
  have lM:h.at id=.map []:=by rw[jM id (by rw[ho];simp),ho]
  cases hx with
  |it _ q m c h2 h3 h4=>
   have ao2:=hm.objs id h2
   rw[h3,lM] at ao2
   obtain⟨en,clock,g1,g2,g3⟩:=ao2
   have Q0:en= #[]:=Array.eq_empty_of_size_eq_zero g2
   subst Q0
   have Mw:=hm.kept q _ (.inr ⟨_,_,h4,rfl⟩)
   refine cU (s:=Instr.next (a.eval it) false type) rfl ⟨.tuple #[.bool false], ?_,.tup _ _ rfl (fun k hk=> ?_)⟩
   ·rw[hv]
    simp[Instr.next,getObj,Sem.run,Mw,g1,choose,Question.forced]
   ·have:k=0:=by simp at hk;omega
    subst this
    exact .p _ _ (.bool false)
 case extract t i=>
  have h2:=j9 ht (yA hk)
  generalize hv:a.eval t=v at h2
  split at h1<;>cases h1
  rename_i vs e
  rw[e] at h2
  cases h2 with
  |tup _ xs h3 h4=>
   cases hg:vs[i]? with
   |none=>rw[hg] at aV;simp[O.of,O.bad] at aV
   |some y=>
    have hi:i<vs.length:=(List.getElem?_eq_some_iff.1 hg).1
    have h5:=h4 i hi
    rw[List.getD_eq_getElem?_getD,hg] at h5
    obtain⟨u,hu⟩:∃u,xs[i]? =some u:=⟨_,getD_some (by omega)⟩
    rw[Array.getD_eq_getD_getElem?,hu] at h5
    refine cU (s:=Instr.extract (a.eval t) i) rfl ⟨u,by simp[hv,Instr.extract,hu],by simpa [O.of] using h5⟩
 case call c=>
  obtain⟨callee,args,argTypes⟩:=c
  cases callee<;>simp only at h1<;>try (cases h1;done)
  rename_i b
  have tv:ef true tm args.toList=true:=by simpa [gu] using hk
  have Gy:=wv ht tv
  cases b<;>simp only at h1<;>try (cases h1;done)
  ·
   split at h1
   ·rename_i x t e1 e2
    have ha:∃y,args= #[y]∧uv (aX tm y)=x:=by
     obtain⟨l⟩:=args
     match l,e1 with
     |[y],e1=>exact⟨y,rfl,by simpa [gG] using e1⟩
    have hb:argTypes= #[t]:=by
     obtain⟨l⟩:=argTypes
     simpa using e2
    obtain⟨y,rfl,rfl⟩:=ha
    subst hb
    have hy:=j9 ht (show uk true (aX tm y)=true by simpa [ef] using tv)
    refine cU (s:=Builtin.len_ #[t] type #[a.eval y]) (by simp[execOp,resolve,invoke,builtin]) ?_
    generalize a.eval y=v at hy
    split at h1<;>cases h1
    ·rename_i s hd e
     have h2:=bE hT hd
     rw[e] at hy
     have:=j0 hy;subst this
     exact⟨_,by simp[Builtin.len_,run_underlying h2,goInt],kQ _ _⟩
    ·rename_i et l hd e
     have h2:=bE hT hd
     rw[e] at hy
     obtain⟨p,c,rfl⟩:∃p c,v=.slice p l.length c:=by
      cases cn hy with
      |sl0=>exact⟨_,_,rfl⟩
      |slE=>exact⟨_,_,rfl⟩
      |sl=>exact⟨_,_,rfl⟩
     exact⟨_,by simp[Builtin.len_,run_underlying h2,goInt],kQ _ _⟩
    ·rename_i et hd e
     have h2:=bE hT hd
     rw[e] at hy
     obtain⟨p,c,rfl⟩:∃p c,v=.slice p 0 c:=by
      cases cn hy with
      |nils=>exact⟨_,_,rfl⟩
     exact⟨_,by simp[Builtin.len_,run_underlying h2,goInt],kQ _ 0⟩
    ·rename_i et id g off k hd e
     have h2:=bE hT hd
     rw[e] at hy
     obtain⟨p,c,rfl⟩:∃p c,v=.slice p k c:=by
      cases hy with
      |arr=>exact⟨_,_,rfl⟩
      |arrN=>exact⟨_,_,rfl⟩
      |arrS=>exact⟨_,_,rfl⟩
     exact⟨_,by simp[Builtin.len_,run_underlying h2,goInt],kQ _ _⟩
   ·cases h1
  ·
   cases h1
   cases he:sB true (gG tm args.toList) with
   |none=>rw[he] at aV;simp[O.of,O.bad] at aV
   |some x=>
    have:=xF (P:=P) (w:=w) (C:=C) (n:=h.length) (vs:=args.toList.map a.eval) he (by simp[gG]) (fun k bT=>Gy k (by simpa [gG] using bT))
    refine cU (s:=Builtin.max_ argTypes type (args.map a.eval)) (by simp[execOp,resolve,invoke,builtin]) ?_
    simpa [O.of,Builtin.max_] using this
  ·cases h1
   cases he:sB false (gG tm args.toList) with
   |none=>rw[he] at aV;simp[O.of,O.bad] at aV
   |some x=>
    have:=xF (P:=P) (w:=w) (C:=C) (n:=h.length) (vs:=args.toList.map a.eval) he (by simp[gG]) (fun k bT=>Gy k (by simpa [gG] using bT))
    refine cU (s:=Builtin.min_ argTypes type (args.map a.eval)) (by simp[execOp,resolve,invoke,builtin]) ?_
    simpa [O.of,Builtin.min_] using this
end
end Go.En
namespace Go.En
open Go.RowKit
section
variable {P:Program} {T:cX} {F:e_} {w w':World} {C:Cx} {h rd:Hp} {n:Nat}
def Cx.set(C:Cx)(n:Nat)(c:Cn):Cx:={C with μ:=fun i=>if i=n then c else C.μ i}
theorem cV(C:Cx)(n:Nat)(c:Cn):(C.set n c).μ n=c:=by simp[Cx.set]
theorem a_{C:Cx}{id j:Nat}{c:Cn}(e:j≠id):(C.set id c).μ j=C.μ j:=by simp[Cx.set,e]
structure pt(C:Cx)(h:Hp)(id:Nat)(ob:Obj):Prop where
 lt:id<h.length
 none:C.μ id=.none
 ob:h.at id=ob
theorem pt.ext{id:Nat}{ob:Obj}(hf:pt C h id ob)(c:Cn)(n:Nat):Ext n C (C.set id c):=by
 refine⟨fun _ _ h=>h,fun _ _ h=>h,fun _ _ h=>h,rfl,fun j _=> ?_⟩
 by_cases e:j=id
 ·subst e;exact .inr (.inr hf.none)
 ·exact .inl (a_ e)
theorem Fr.grow{w0:World}{S:Nat→Prop}(hf:Fr w0 S w)(hb:Below w.heap.size w w'):Fr w0 S w':=
 ⟨hb.os.trans hf.os,hb.tape.trans hf.tape,hb.output.trans hf.output,Nat.le_trans hf.size hb.size,fun k hk hs=>(hb.block k (Nat.lt_of_lt_of_le hk hf.size)).trans (hf.block k hk hs)⟩
theorem kg{a:Addr}{v:Value}(hc:w.cell? a=some v):a.block<w.heap.size:=by
 unfold World.cell? at hc
 cases e:w.heap[a.block]? with
 |none=>rw[e] at hc;cases hc
 |some o=>exact(Array.getElem?_eq_some_iff.1 e).1
theorem Mem.place(hm:Mem F C h w)(hb:Below w.heap.size w w'){id:Nat}{ob:Obj}(hf:pt C h id ob)(c:Cn)(hc:∀B,c.blk=some B→w.heap.size≤B∧B<w'.heap.size)
  (ho:kn (C.set id c) h.length w' c ob)(Q7:∀r b,c=.loop r b→b≤id:=by intro _ _ e;cases e):Mem F (C.set id c) h w':=by
 have QE:∀id B,id<h.length→(C.μ id).blk=some B→w'.heap[B]? =w.heap[B]? :=fun id B aH e=>hb.block B (hm.lt id B aH e).1
 refine⟨fun j hj=> ?_,fun a v e=> ?_,hm.src,fun j B hj e a v hv eV=> ?_,fun i j B hi hj e1 e2=> ?_,fun j B hj e=> ?_,fun B o e=> ?_,fun B o e j hj e'=> ?_,fun j r b hj e=> ?_,hm.fr.grow hb,hm.gl⟩
 ·by_cases hi:j=id
  ·subst hi;rw[cV,hf.ob];exact ho
  ·rw[a_ hi]
   exact(hm.objs j hj).mono (hf.ext c _) (Nat.le_refl _) (fun B e=>QE j B hj e)
 ·have h1:=hm.prot a v e
  rw[hb.cell (kg h1)];exact h1
 ·by_cases hi:j=id
  ·subst hi
   rw[cV] at e
   have:=kg (hm.prot a v hv)
   have:=(hc B e).1
   omega
  ·rw[a_ hi] at e ⊢
   exact hm.sep j B hj e a v hv eV
 ·by_cases h1:i=id<;>by_cases h2:j=id
  ·omega
  ·subst h1
   rw[cV] at e1
   rw[a_ h2] at e2
   have:=(hc B e1).1
   have:=(hm.lt j B hj e2).1
   omega
  ·subst h2
   rw[cV] at e2
   rw[a_ h1] at e1
   have:=(hc B e2).1
   have:=(hm.lt i B hi e1).1
   omega
  ·rw[a_ h1] at e1
   rw[a_ h2] at e2
   exact hm.inj i j B hi hj e1 e2
 ·by_cases hi:j=id
  ·subst hi
   rw[cV] at e
   obtain⟨h1,h2⟩:=hc B e
   exact⟨h2,.inr (Nat.le_trans hm.fr.size h1)⟩
  ·rw[a_ hi] at e
   obtain⟨h1,h2⟩:=hm.lt j B hj e
   exact⟨Nat.lt_of_lt_of_le h1 hb.size,h2⟩
 ·have h1:=hm.kept B o e
  rw[hb.block B (Array.getElem?_eq_some_iff.1 h1).1];exact h1
 ·by_cases hi:j=id
  ·subst hi
   rw[cV] at e'
   have:=(hc B e').1
   have:=(Array.getElem?_eq_some_iff.1 (hm.kept B o e)).1
   omega
  ·rw[a_ hi] at e'
   exact hm.ksep B o e j hj e'
 ·by_cases hi:j=id
  ·subst hi
   rw[cV] at e
   exact Q7 r b e
  ·rw[a_ hi] at e
   exact hm.bnd j r b hj e
def Cx.cut(C:Cx)(n:Nat):Cx:={C with μ:=fun i=>if i<n then C.μ i else .none}
theorem Cx.cut_ext(C:Cx)(n:Nat):Ext n C (C.cut n):=⟨fun _ _ h=>h,fun _ _ h=>h,fun _ _ h=>h,rfl,fun id aH=>.inl (by simp[Cx.cut,aH])⟩
theorem nG{n id:Nat}(h:id<n):(C.cut n).μ id=C.μ id:=by simp[Cx.cut,h]
theorem iD{n id:Nat}(h:¬id<n):(C.cut n).μ id=.none:=by simp[Cx.cut,h]
theorem Mem.room(hm:Mem F C h w)(os:List Obj):Mem F (C.cut h.length) (h++os) w∧Ext h.length C (C.cut h.length):=by
 have hx:=C.cut_ext h.length
 have yd:∀id,id<h.length→Hp.at (h++os) id=h.at id:=fun id aH=>by simp[Hp.at,List.getElem?_append_left aH]
 refine⟨⟨fun id aH=> ?_,hm.prot,hm.src,fun id B aH e a v hv eV=> ?_,fun i j B hi hj e1 e2=> ?_,fun id B aH e=> ?_,hm.kept,fun B o e id aH e'=> ?_,fun id r b aH e=> ?_,hm.fr,hm.gl.mono hx.M hx.L⟩,hx⟩
 ·by_cases hi:id<h.length
  ·rw[yd id hi,nG hi]
   exact(hm.objs id hi).mono hx (by simp) (fun _ _=>rfl)
  ·rw[iD hi]
   cases Hp.at (h++os) id<;>exact trivial
 ·by_cases hi:id<h.length
  ·rw[nG hi] at e ⊢
   rw[yd id hi];exact hm.sep id B hi e a v hv eV
  ·rw[iD hi] at e;cases e
 ·by_cases h1:i<h.length<;>by_cases h2:j<h.length
  ·rw[nG h1] at e1;rw[nG h2] at e2;exact hm.inj i j B h1 h2 e1 e2
  ·rw[iD h2] at e2;cases e2
  ·rw[iD h1] at e1;cases e1
  ·rw[iD h1] at e1;cases e1
 ·by_cases hi:id<h.length
  ·rw[nG hi] at e;exact hm.lt id B hi e
  ·rw[iD hi] at e;cases e
 ·by_cases hi:id<h.length
  ·rw[nG hi] at e';exact hm.ksep B o e id hi e'
  ·rw[iD hi] at e';cases e'
 ·by_cases hi:id<h.length
  ·rw[nG hi] at e;exact hm.bnd id r b hi e
  ·rw[iD hi] at e;cases e
theorem dT(w:World)(o:Go.Obj):Below w.heap.size w (w.alloc o):=(Below.refl _ w).alloc (Nat.le_refl _) o
theorem heap_alloc(w:World)(o:Go.Obj):(w.alloc o).heap[w.heap.size]? =some o:=heap_alloc_new w o
theorem Mem.grow(hm:Mem F C h w)(hb:Below w.heap.size w w'):Mem F C h w':=by
 refine⟨fun id aH=>(hm.objs id aH).mono (Ext.refl _ _) (Nat.le_refl _) (fun B e=>hb.block B (hm.lt id B aH e).1),fun a v e=> ?_,hm.src,hm.sep,hm.inj,fun id B aH e=> ?_,fun B o e=> ?_,hm.ksep,hm.bnd,hm.fr.grow hb,hm.gl⟩
 ·have h1:=hm.prot a v e
  rw[hb.cell (kg h1)];exact h1
 ·obtain⟨h1,h2⟩:=hm.lt id B aH e
  exact⟨Nat.lt_of_lt_of_le h1 hb.size,h2⟩
 ·have h1:=hm.kept B o e
  rw[hb.block B (Array.getElem?_eq_some_iff.1 h1).1];exact h1
theorem Mem.nilRow(hm:Mem F C h w){id sz:Nat}(hf:pt C h id (.arr 0 sz false [])):Mem F (C.set id (.nil 0)) h w∧ar (C.set id (.nil 0)) h.length (.arr id 0 0 0) (.slice none 0 0):=
 ⟨hm.place (Below.refl _ _) hf _ (fun B e=>by cases e) ⟨rfl,rfl⟩,.arrN _ _ hf.lt (cV _ _ _)⟩
def Bh(C:Cx)(h:Hp)(n:Nat)(os:List Obj):Prop:=∀k ob,os[k]? =some ob→pt C h (n+k) ob
def Rr(P:Program)(a:Act)(o:Oper)(F:e_)(C:Cx)(h:Hp)(w:World)(id n:Nat)(x:AV):Prop:=
 ∃v w' C',(execOp a.eval o).run P w=.ok (.value v) w'∧Ext h.length C C'∧(∀j,¬(id≤j∧j<id+n)→C'.μ j=C.μ j)∧Mem F C' h w'∧ar C' h.length x v
theorem ja{a:Act}{o:Oper}{x:AV}{id:Nat}{ob:Obj}(hf:pt C h id ob){v:Value}{c:Cn}(he:(execOp a.eval o).run P w=.ok (.value v) w')(hm:Mem F (C.set id c) h w')(hr:ar (C.set id c) h.length x v):
  Rr P a o F C h w id 1 x:=
 ⟨v,w',_,he,hf.ext c _,fun j hj=>a_ (by omega),hm,hr⟩
theorem FH(hm:Mem F C h w){t id:Nat}{cs:List AV}{v:Value}(hf:pt C h id (.box cs))(hr:m0 C h.length cs v.cells)(h1:cs.all AV.one=true):
  ∃u w' c,(newVar t v).run P w=.ok u w'∧Mem F (C.set id c) h w'∧ar (C.set id c) h.length (.ref id 0) (.pointer (some u)):=by
 refine⟨⟨w.heap.size,0,none⟩,w.alloc (.cells v.cells t),.box w.heap.size,rfl, ?_,.ref _ _ _ hf.lt (cV _ _ _)⟩
 refine hm.place (dT w _) hf _ (fun B e=>by cases e;simp) ?_
 exact⟨v.cells,t,heap_alloc w _,hr.1,h1,fun k hk=>(hr.2 k hk).mono (hf.ext _ _) (Nat.le_refl _)⟩
end
end Go.En
namespace Go.En
open Go.RowKit
section
variable {P:Program} {T:cX} {F:e_} {w w':World} {C:Cx} {h rd:Hp} {n:Nat}
theorem H9{f:Nat}{cs:List AV}{ps:List PV}{u:Value}(h:iF cs=some ps)(hr:ar C n (.fn f cs) u):bu C.M (.fn f ps) u:=by
 obtain⟨h1,h2⟩:=pQ (C:=C) (n:=n) h
 cases hr with
 |fn _ _ vs h3 h4=>exact .fn _ _ _ (by rw[h3,h1]) (fun k hk=>h2 k (by rw[←h1];exact hk) _ (h4 k (by rw[←h1];exact hk)))
def YY(M:Addr→Option Value)(ps:List PV)(c:Array Value):Prop:=c.size=ps.length∧∀k,k<ps.length→bu M (ps.getD k .nils) (c.getD k Go.undef)∧(c.getD k Go.undef).oneCell'=true
theorem SN{v:AV}{x:PV}{u:Value}(hx:v.toP=some x)(hr:ar C n v u)(h1:v.cells.all AV.one=true):x.cells.length=v.cells.length∧YY C.M x.cells u.cells:=by
 obtain⟨⟨h2,h3⟩,h4⟩:=mP hr h1
 have vP:∀k,k<v.cells.length→(u.cells.getD k Go.undef).oneCell'=true:=by
  intro k hk
  have bT:k<u.cells.size:=by omega
  refine h4 _ ?_
  simp[Array.getD_eq_getD_getElem?,bT]
 cases v with
 |p y=>
  simp[AV.toP] at hx;subst hx
  have hy:y.cells=[y]:=by cases y<;>first|rfl|(simp[AV.cells,AV.one] at h1)
  have h0:=h3 0 (by simp[AV.cells])
  have e:(AV.p y).cells=[.p y]:=rfl
  rw[e] at h2 h0 vP
  refine⟨by rw[hy];rfl,by rw[hy];simpa using h2,fun k hk=> ?_⟩
  have:k=0:=by rw[hy] at hk;simpa using hk
  subst this
  rw[hy]
  exact⟨by simpa using cn (by simpa using h0),vP 0 (by simp)⟩
 |agg cs=>
  simp only[AV.toP,Option.map_eq_some_iff] at hx
  obtain⟨ps,h5,rfl⟩:=hx
  obtain⟨h6,h7⟩:=mm h5
  refine⟨h6,by rw[h2];exact h6.symm,fun k hk=> ?_⟩
  have bT:k<cs.length:=by rw[←h6];exact hk
  have h8:=h3 k bT
  have e:(AV.agg cs).cells=cs:=rfl
  rw[e,h7 k bT] at h8
  exact⟨cn h8,vP k bT⟩
 |fn f cs=>
  simp only[AV.toP,Option.map_eq_some_iff] at hx
  obtain⟨ps,h5,rfl⟩:=hx
  have e:(AV.fn f cs).cells=[.fn f cs]:=rfl
  have h0:=h3 0 (by simp[AV.cells])
  rw[e] at h2 h0 vP
  refine⟨rfl,by simpa [PV.cells] using h2,fun k hk=> ?_⟩
  have:k=0:=by simpa [PV.cells] using hk
  subst this
  exact⟨H9 h5 (by simpa using h0),vP 0 (by simp)⟩
 |_=>simp[AV.toP] at hx
def dU(M:Addr→Option Value)(sz:Nat)(es:List PV)(c:Array Value)(o:Nat):Prop:=
 (∀x∈es,x.cells.length=sz)∧∀k,k<(flat es).length→bu M ((flat es).getD k .nils) (c.getD (o+k) Go.undef)∧(c.getD (o+k) Go.undef).oneCell'=true
theorem sT{es:List PV}{sz:Nat}{Q:PV→Nat→Prop}(hu:∀y∈es,y.cells.length=sz)(hq:∀i,i<es.length→∀j,j<sz→Q ((es.getD i .nils).cells.getD j .nils) (i*sz+j)):
  ∀k,k<(flat es).length→Q ((flat es).getD k .nils) k:=by
 intro k hk
 rw[bK hu] at hk
 have gK:0<sz:=by
  rcases Nat.eq_zero_or_pos sz with h|h
  ·subst h;simp at hk
  ·exact h
 have bW:k/sz<es.length:=Nat.div_lt_of_lt_mul (by rw[Nat.mul_comm];exact hk)
 have HZ:=Nat.mod_lt k gK
 have e:k=(k/sz)*sz+k % sz:=by rw[Nat.mul_comm];exact(Nat.div_add_mod k sz).symm
 have h1:=hq (k/sz) bW (k % sz) HZ
 rw[←iC hu bW HZ,←e] at h1
 exact h1
theorem uo{i j sz m:Nat}(hi:i<m)(hj:j<sz):i*sz+j<m*sz:=by
 have:(i+1)*sz≤m*sz:=Nat.mul_le_mul_right _ hi
 rw[Nat.succ_mul] at this;omega
theorem dU.get{M:Addr→Option Value}{sz:Nat}{es:List PV}{c:Array Value}{o:Nat}(hr:dU M sz es c o){i j:Nat}(hi:i<es.length)(hj:j<sz):
  bu M ((es.getD i .nils).cells.getD j .nils) (c.getD (o+(i*sz+j)) Go.undef)∧(c.getD (o+(i*sz+j)) Go.undef).oneCell'=true:=by
 have:=hr.2 (i*sz+j) (by rw[bK hr.1];exact uo hi hj)
 rwa [iC hr.1 hi hj] at this
theorem dU.of{M:Addr→Option Value}{sz:Nat}{es:List PV}{c:Array Value}{o:Nat}(hu:∀y∈es,y.cells.length=sz)
  (hq:∀i,i<es.length→∀j,j<sz→bu M ((es.getD i .nils).cells.getD j .nils) (c.getD (o+(i*sz+j)) Go.undef)∧(c.getD (o+(i*sz+j)) Go.undef).oneCell'=true):dU M sz es c o:=
 ⟨hu,sT (Q:=fun x k=>bu M x (c.getD (o+k) Go.undef)∧(c.getD (o+k) Go.undef).oneCell'=true) hu hq⟩
theorem jQ{a:Array Value}{b:List Value}{off k:Nat}(hle:off+b.length≤a.size):
  (a.toList.take off++b++a.toList.drop (off+b.length)).toArray.getD k Go.undef=if k<off then a.getD k Go.undef else if k<off+b.length then b.getD (k-off) Go.undef else a.getD k Go.undef:=by
 simp only[Array.getD_eq_getD_getElem?,List.getD_eq_getElem?_getD]
 rw[List.getElem?_toArray,nj a.toList b off k (by simpa using hle)]
 split
 ·simp
 ·split<;>simp
theorem dU.set{M:Addr→Option Value}{sz:Nat}{es:List PV}{c:Array Value}{o i:Nat}{x:PV}{b:Array Value}(hr:dU M sz es c o)(hi:i<es.length)(hx:x.cells.length=sz)(hb:YY M x.cells b)
  (ES:o+es.length*sz≤c.size):dU M sz (es.set i x) (c.toList.take (o+i*sz)++b.toList++c.toList.drop (o+i*sz+b.toList.length)).toArray o:=by
 have hbs:b.toList.length=sz:=by simp[hb.1,hx]
 have ny:(i+1)*sz≤es.length*sz:=Nat.mul_le_mul_right _ hi
 rw[Nat.succ_mul] at ny
 refine dU.of (fun y hy=> ?_) (fun k hk j hj=> ?_)
 ·rcases List.mem_or_eq_of_mem_set hy with h|h
  ·exact hr.1 y h
  ·rw[h];exact hx
 ·rw[jQ (by rw[hbs];omega),hbs]
  rw[List.length_set] at hk
  by_cases Xv:k=i
  ·subst Xv
   rw[if_neg (by omega),if_pos (by omega)]
   have h1:=hb.2 j (by omega)
   have e1:(es.set k x).getD k .nils=x:=by simp[List.getD_eq_getElem?_getD,hk]
   rw[e1]
   rw[show o+(k*sz+j)-(o+k*sz)=j from by omega]
   simpa [List.getD_eq_getElem?_getD,Array.getD_eq_getD_getElem?] using h1
  ·have e1:(es.set i x).getD k .nils=es.getD k .nils:=by simp[List.getD_eq_getElem?_getD,Ne.symm Xv]
   rw[e1]
   have h1:=hr.get hk hj
   rcases Nat.lt_or_gt_of_ne Xv with h2|h2
   ·have:(k+1)*sz≤i*sz:=Nat.mul_le_mul_right _ h2
    rw[Nat.succ_mul] at this
    rw[if_pos (by omega)];exact h1
   ·have:(i+1)*sz≤k*sz:=Nat.mul_le_mul_right _ h2
    rw[Nat.succ_mul] at this
    rw[if_neg (by omega),if_neg (by omega)];exact h1
theorem uE{sz:Nat}{u:Operand→AV}{e:Operand→Value}:∀(l:List (Nat×Operand)) (es lA:List PV) (c:Array Value),c.size=es.length*sz→dU C.M sz es c 0→
  (∀p∈l,ar C n (u p.2) (e p.2))→oU sz es (l.map fun (i,x)=>(i,u x))=some lA→
  ∃c',Instr.fill (fun i=>some (i*sz,sz)) c (l.map fun (i,x)=>(i,e x))=some c'∧lA.length=es.length∧c'.size=es.length*sz∧dU C.M sz lA c' 0
 |[],es,lA,c,h1,h2,_,h3=>by simp[oU] at h3;subst h3;exact⟨c,rfl,rfl,h1,h2⟩
 |(j,x)::l,es,lA,c,h1,h2,hl,h3=>by
  simp only[List.map_cons,oU,Option.bind_eq_some_iff] at h3
  obtain⟨y,h4,h5⟩:=h3
  split at h5
  ·rename_i hc
   obtain⟨h6,h7,h8⟩:=hc
   have Dg:ar C n (u x) (e x):=hl (j,x) (by simp)
   obtain⟨h9,jU⟩:=SN h4 Dg h8
   have hy:y.cells.length=sz:=by rw[h9];exact h7
   have gK:(e x).cells.size=sz:=by rw[jU.1,hy]
   have ny:(j+1)*sz≤es.length*sz:=Nat.mul_le_mul_right _ h6
   rw[Nat.succ_mul] at ny
   have nz:=kH (e x).cells.toList 0 (j*sz) c (by rw[h1];simp;omega)
   simp only[Nat.add_zero] at nz
   have wt:=h2.set h6 hy jU (by omega)
   simp only[Nat.zero_add] at wt
   simp only[List.map_cons,Instr.fill]
   rw[if_neg (by rw[gK,h1];simp;omega)]
   rw[←nz] at wt
   obtain⟨c',g1,g2,g3,g4⟩:=uE l (es.set j y) lA _ (by
    rw[List.length_set]
    have:=congrArg List.length nz
    simp at this ⊢
    omega) wt (fun p hp=>hl p (by simp[hp])) h5
   refine⟨c', ?_,by rw[g2,List.length_set],by rw[g3,List.length_set],g4⟩
   rw[←Array.foldl_toList,Array.toList_zipIdx]
   simpa using g1
  ·cases h5
end
end Go.En
namespace Go.En
open Go.RowKit
section
variable {P:Program} {T:cX} {F:e_} {w w':World} {C:Cx} {h rd:Hp} {n:Nat}
theorem wrap_small{n:Int}(h0:0≤n)(h1:n≤1099511627776):IntKind.i64.wrap n=n:=by
 have e:n % 2^64=n:=Int.emod_eq_of_lt h0 (by omega)
 simp only[IntKind.wrap,IntKind.bits,IntKind.signed,e]
 rw[if_neg (by simp;omega)]
theorem m_(hT:T.Ok P){t:Nat}{i:TI}(hi:T.info t=some i):
  ∃z,(zeroValue t).run P w=.ok z w∧z.cells.size=i.size∧(∀M k,k<i.size→bu M ((cf i).cells.getD k .nils) (z.cells.getD k Go.undef)∧(z.cells.getD k Go.undef).oneCell'=true):=by
 obtain⟨_,inf,z,h1,h2,h3,h4,h5,h6,h7,h8,h9⟩:=hT.info t i hi
 refine⟨z,by simp[zeroValue,typeInfo,h1,h4],h5,fun M k hk=> ?_⟩
 have jU:=h7 k (by omega)
 have hc:(cf i).cells.getD k .nils=i.zero.getD k .nils:=by
  unfold cf
  by_cases ha:aO i.desc=true
  ·rw[ha];rfl
  ·have zH:aO i.desc=false:=by simpa using ha
   obtain⟨nz,_⟩:=h9 zH
   rw[zH]
   match Rn:i.zero with
   |[x]=>
    have wt:=h7 0 (by rw[Rn];simp)
    rw[Rn] at wt
    have:k=0:=by omega
    subst this
    have hx:x.cells=[x]:=by
     have:=wt.2
     simp at this
     cases x<;>first|rfl|(simp[AV.one] at this)
    simp[hx]
   |[]=>rw[Rn] at h6;simp at h6;omega
   |_::_::_=>rw[Rn] at h6;simp at h6;omega
 rw[hc]
 have Uy:bu M (i.zero.getD k .nils) (z.cells.getD k Go.undef):=jU.1.mono (fun a v e=>by cases e)
 refine⟨Uy, ?_⟩
 exact(we (C:=⟨M,fun _=>.none,fun _=>none,fun _=>none,⟨fun _ _=>none,fun _=>none,fun _=>none⟩⟩) (n:=0) (.p _ _ Uy) jU.2).1
theorem wE{zc:Array Value}{sz len:Nat}{x:PV}{M:Addr→Option Value}(hs:zc.size=sz)(hx:x.cells.length=sz)
  (hr:∀k,k<sz→bu M (x.cells.getD k .nils) (zc.getD k Go.undef)∧(zc.getD k Go.undef).oneCell'=true){m:Nat}(hm:len*sz≤m):
  dU M sz (List.replicate len x) ((Array.range m).map (zc[· % zc.size]!)) 0:=by
 refine dU.of (fun y hy=>by rw[List.eq_of_mem_replicate hy];exact hx) (fun i hi j hj=> ?_)
 rw[List.length_replicate] at hi
 have bW:=uo hi hj
 have e1:(List.replicate len x).getD i .nils=x:=by simp[List.getD_eq_getElem?_getD,hi]
 rw[e1]
 have e2:((Array.range m).map (zc[· % zc.size]!)).getD (0+(i*sz+j)) Go.undef=zc.getD j Go.undef:=by
  have:0+(i*sz+j)<m:=by omega
  rw[Array.getD_eq_getD_getElem?,Array.getElem?_map,Array.getElem?_range,if_pos this]
  simp only[Option.map_some,Option.getD_some,hs]
  have HZ:(0+(i*sz+j)) % sz=j:=by
   rw[Nat.zero_add,Nat.mul_comm,Nat.mul_add_mod,Nat.mod_eq_of_lt hj]
  rw[HZ]
  have iO:j<zc.size:=by omega
  simp[Array.getD_eq_getD_getElem?,iO]
 rw[e2]
 exact hr j hj
theorem yX{sz id:Nat}(hm:Mem F C h w)(hb:Below w.heap.size w w'){es:List PV}{c:Array Value}{et:TypeId}{B cap:Nat}(hf:pt C h id (.arr 0 sz false es))(hB:w.heap.size≤B)(Rc:B<w'.heap.size)
  (hh:w'.heap[B]? =some (.cells c et (0,0)))(gK:0<sz)(EV:es.length≤cap)(ES:cap*sz≤c.size)(hr:dU C.M sz es c 0):
  Mem F (C.set id (.arr 0 B 0 cap sz)) h w'∧ar (C.set id (.arr 0 B 0 cap sz)) h.length (.arr id 0 0 es.length) (.slice (some ⟨B,0,none⟩) es.length cap):=by
 refine⟨hm.place hb hf _ (fun B' e=>by cases e;exact⟨hB,Rc⟩) ⟨rfl,rfl,gK,EV,hr.1,c,et,hh,by omega,hr.2⟩, ?_⟩
 have:=ar.arr (C:=C.set id (.arr 0 B 0 cap sz)) (n:=h.length) id 0 0 es.length B 0 cap sz 0 hf.lt (cV _ _ _) (by omega) (.inl (by omega))
 simpa using this
end
end Go.En
namespace Go.En
open Go.RowKit
section
variable {P:Program} {T:cX} {F:e_} {w w':World} {C:Cx} {h rd:Hp} {n:Nat}
theorem BO(hm:Mem F C h w)(jM:∀id,rd.at id≠ .dead→h.at id=rd.at id){x:AV}{v:Value}{xs:List PV}(hp:rM rd x=some xs)(hr:ar C h.length x v):
  ∃p cap,v=.slice p xs.length cap∧xs.length≤cap∧(xs=[]∨∃B o sz,p=some ⟨B,o,none⟩∧(∀y∈xs,y.cells.length=sz)∧
   ∀k,k<(flat xs).length→∃u,w.cell? ⟨B,o+k,none⟩=some u∧bu C.M ((flat xs).getD k .nils) u∧u.oneCell'=true):=by
 unfold rM at hp
 split at hp
 ·cases hp
  cases cn hr with
  |sl0=>exact⟨_,_,rfl,by simp,.inl rfl⟩
  |slE=>exact⟨_,_,rfl,by simp,.inl rfl⟩
  |sl _ B o cap sz f h1 h2 h3 h4=>exact⟨_,_,rfl,h1,.inr ⟨B,o,sz,rfl,h2,fun k hk=>⟨f k,hm.prot _ _ (h3 k hk).1,h4 k hk,(h3 k hk).2⟩⟩⟩
 ·cases hp
  cases cn hr with
  |nils=>exact⟨_,_,rfl,by simp,.inl rfl⟩
 ·cases hp
  cases cn hr with
  |sle a cap=>exact⟨_,_,rfl,Nat.zero_le _,.inl rfl⟩
 ·rename_i id g off len
  split at hp
  ·rename_i g' sz sh es aH
   split at hp
   ·rename_i hc
    obtain⟨rfl,h5⟩:=hc
    cases hp
    have nS:h.at id=.arr g sz sh es:=by rw[jM id (by rw[aH];simp),aH]
    have hlen:((es.drop off).take len).length=len:=by simp;omega
    rw[hlen]
    cases hr with
    |arr _ _ _ _ B o cap i4 a h6 h7 h8 h9=>
     have ho:=hm.objs id h6
     rw[nS,h7] at ho
     obtain⟨_,rfl,HT,jU,nz,c,et,wt,Uy,RQ⟩:=ho
     refine⟨_,_,rfl,by omega,.inr ⟨B,a,i4,rfl,fun y hy=>nz y (List.mem_of_mem_drop (List.mem_of_mem_take hy)), ?_⟩⟩
     have hu:∀y∈(es.drop off).take len,y.cells.length=i4:=fun y hy=>nz y (List.mem_of_mem_drop (List.mem_of_mem_take hy))
     refine sT (Q:=fun x k=>∃u,w.cell? ⟨B,a+k,none⟩=some u∧bu C.M x u∧u.oneCell'=true) hu (fun i hi j hj=> ?_)
     rw[hlen] at hi
     have hio:off+i<es.length:=by omega
     have ha:a=o+off*i4:=by
      rcases h9 with h9|h9
      ·exact h9
      ·omega
     subst ha
     have bW:=uo hio hj
     have EV:es.length*i4≤cap*i4:=Nat.mul_le_mul_right _ jU
     have e1:((es.drop off).take len).getD i .nils=es.getD (off+i) .nils:=by
      simp[List.getD_eq_getElem?_getD,hi,List.getElem?_drop]
     have D9:=RQ ((off+i)*i4+j) (by rw[bK nz];exact bW)
     rw[iC nz hio hj] at D9
     rw[e1,cH wt]
     have e2:o+off*i4+(i*i4+j)=o+((off+i)*i4+j):=by rw[Nat.add_mul];omega
     rw[e2]
     exact⟨_,getD_some (by omega),D9⟩
    |arrN _ _ h6 h7=>
     refine⟨_,_,rfl,by simp,.inl (by simp)⟩
    |arrS _ _ _ _ g' a cap h6 h7 h8=>
     have ho:=hm.objs id h6
     rw[nS] at ho
     cases hc:C.μ id<;>rw[hc] at ho h7<;>simp[Cn.gen] at h7
     ·obtain⟨h4,_⟩:=ho;omega
     ·obtain⟨h4,_⟩:=ho;omega
   ·cases hp
  ·cases hp
 ·cases hp
theorem tX{v:Value}{xs:List PV}{sz:Nat}(hu:∀y∈xs,y.cells.length=sz)
  (hv:∃p cap,v=.slice p xs.length cap∧xs.length≤cap∧(xs=[]∨∃B o sz,p=some ⟨B,o,none⟩∧(∀y∈xs,y.cells.length=sz)∧
    ∀k,k<(flat xs).length→∃u,w.cell? ⟨B,o+k,none⟩=some u∧bu C.M ((flat xs).getD k .nils) u∧u.oneCell'=true)):
  ∃news:List Value,news.length=xs.length*sz∧(∀w':World,w'.heap=w.heap→(Builtin.firstCells sz xs.length v).run P w'=.ok news.toArray w')∧(Builtin.lenOf v)=pure xs.length∧
   (∀k,k<(flat xs).length→bu C.M ((flat xs).getD k .nils) (news.getD k Go.undef))∧(∀u∈news,u.oneCell'=true):=by
 obtain⟨p,cap,rfl,h0,h2⟩:=hv
 rcases h2 with rfl|⟨B,o,i4,rfl,h3,h4⟩
 ·exact⟨[],by simp,fun w' _=>by cases p<;>simp[Builtin.firstCells,loadCells,loadCellsFrom],rfl,fun k hk=>by simp[flat] at hk,fun u hu=>by cases hu⟩
 ·let f:=fun k=>(w.cell? ⟨B,o+k,none⟩).getD Go.undef
  have zF:=bK hu
  refine⟨(List.range (xs.length*sz)).map f,by simp,fun w' hw=> ?_,rfl,fun k hk=> ?_,fun u hu=> ?_⟩
  ·refine run_firstCells_some w' sz xs.length ⟨B,o,none⟩ xs.length cap _ (by simp) (fun j u hj=> ?_)
   have Gv:j<xs.length*sz:=by
    have:=(List.getElem?_eq_some_iff.1 hj).1;simpa using this
   obtain⟨u',h5,_⟩:=h4 j (by rw[zF];exact Gv)
   simp[Gv,f,h5] at hj
   rw[jR,←hj]
   have:w'.cell? ⟨B,o+j,none⟩=w.cell? ⟨B,o+j,none⟩:=by simp[World.cell?,hw]
   rw[this,h5]
  ·obtain⟨u',h5,h6,_⟩:=h4 k hk
   have:k<xs.length*sz:=by rw[←zF];exact hk
   simpa [List.getD_eq_getElem?_getD,this,f,h5] using h6
  ·simp only[List.mem_map,List.mem_range] at hu
   obtain⟨k,hk,rfl⟩:=hu
   obtain⟨u',h5,_,h6⟩:=h4 k (by rw[zF];exact hk)
   simpa [f,h5] using h6
theorem fits{abO old bytes:Nat}(h:old<abO)(h2:abO*bytes≤1099511627776):Builtin.nextslicecap abO old*bytes≤281474976710656:=
 growslice_fits h (by omega)
theorem kJ(hT:T.Ok P){t t' ty et Rg:Nat}{e:TI}{base:Option Addr}{kI vG m:Nat}{x:Value}{vI news:List Value}(ht:P.underlying t=some (.slice et))(Vo:P.underlying t'=some (.slice Rg))
  (he:T.info et=some e)(ho:∀w':World,w'.heap=w.heap→(Builtin.firstCells e.size kI (.slice base kI vG)).run P w'=.ok vI.toArray w')
  (hn:∀w':World,w'.heap=w.heap→(Builtin.firstCells e.size m x).run P w'=.ok news.toArray w')(hl:Builtin.lenOf x=pure m)
  (hg:vG<kI+m)(h1:kI+m≤1099511627776)(h2:(kI+m)*e.bytes≤1099511627776):
  ∃z cap,kI+m≤cap∧(zeroValue et).run P w=.ok z w∧z.cells.size=e.size∧(Builtin.append_ #[t,t'] ty #[.slice base kI vG,x]).run P w=
   .ok (.slice (some ⟨w.heap.size,0,none⟩) (kI+m) cap) (w.drew.alloc (.cells (vI.toArray++news.toArray++Builtin.zeroCells z.cells (cap-(kI+m))) et)):=by
 obtain⟨_,inf,z,g1,g2,g3,g4,g5,_⟩:=hT.info et e he
 refine⟨z,grownCap w (kI+m) vG et,grownCap_ge w _ _ _,by simp[zeroValue,typeInfo,g1,g4],g5, ?_⟩
 have EL:¬(kI+m≤vG):=by omega
 have ay4:¬(9223372036854775807<((kI:Int)+(m:Int))):=by omega
 have h48:=fits hg h2
 rw[←g3] at h48
 have ay6:¬(281474976710656<Builtin.nextslicecap (kI+m) vG*inf.bytes):=by omega
 have hf:=hn w.drew rfl
 have QZ:=ho w.drew rfl
 rw[←g2] at hf QZ
 simp[Builtin.append_,run_underlying ht,run_underlying Vo,sizeOf,typeInfo,zeroValue,g1,g4,hl,EL,ay4,ay6,Question.forced,hf,QZ,newRow,grownCap]
 congr 2
 apply Array.ext'
 simp[List.append_assoc]
theorem jj(w:World)(o:Go.Obj):Below w.heap.size w (w.drew.alloc o):=((Below.refl _ w).drew).alloc (Nat.le_refl _) o
theorem vU(hT:T.Ok P)(hm:Mem F C h w)(jM:∀id,rd.at id≠ .dead→h.at id=rd.at id){t t' ty id:Nat}{e e':TI}{x:AV}{v:Value}{xs:List PV}
  (he:elemOf T t=some e)(ET:elemOf T t'=some e')(hp:rM rd x=some xs)(hr:ar C h.length x v)(hf:pt C h id (.arr 0 e.size false xs))
  (aV:0<e.size∧xs.length*e.bytes≤1099511627776∧xs.length≤1099511627776∧∀y∈xs,y.cells.length=e.size):
  ∃u w' c,(Builtin.append_ #[t,t'] ty #[.slice none 0 0,v]).run P w=.ok u w'∧Mem F (C.set id c) h w'∧
   ar (C.set id c) h.length (.arr id 0 0 xs.length) u:=by
 obtain⟨h1,h2,h3,h4⟩:=aV
 obtain⟨et,g1,g2⟩:=dn hT he
 obtain⟨Rg,E0,_⟩:=dn hT ET
 obtain⟨news,k1,k2,k3,k4,k5⟩:=tX (P:=P) h4 (BO hm jM hp hr)
 have gK:=run_sizeOf (w:=w) hT g2
 by_cases hx:xs.length=0
 ·have:xs=[]:=List.eq_nil_of_length_eq_zero hx
  subst this
  refine⟨.slice none 0 0,w,.nil 0, ?_,hm.place (Below.refl _ _) hf _ (fun B e=>by cases e) ⟨rfl,rfl⟩,.arrN _ _ hf.lt (cV _ _ _)⟩
  have MZ:=k2 w rfl
  simp only[List.length_nil] at MZ k3
  simp[Builtin.append_,run_underlying g1,run_underlying E0,gK,k3,MZ]
 ·obtain⟨z,cap,r1,r2,r3,r4⟩:=kJ (P:=P) (w:=w) (ty:=ty) (vI:=[]) (base:=none) (kI:=0) (vG:=0) hT g1 E0 g2 (fun w' _=>rfl) k2 k3 (by omega) (by omega) (by rw[Nat.zero_add];exact h2)
  rw[Nat.zero_add] at r1 r4
  have zF:=bK h4
  have aa:dU C.M e.size xs ((#[]:Array Value)++news.toArray++Builtin.zeroCells z.cells (cap-xs.length)) 0:=by
   refine⟨h4,fun k hk=> ?_⟩
   have bT:k<news.length:=by rw[k1,←zF];exact hk
   have e1:((#[]:Array Value)++news.toArray++Builtin.zeroCells z.cells (cap-xs.length)).getD (0+k) Go.undef=news.getD k Go.undef:=by
    rw[Nat.zero_add,Array.getD_eq_getD_getElem?,List.getD_eq_getElem?_getD,Array.empty_append,Array.getElem?_append_left (by simpa using bT)]
    simp
   rw[e1]
   exact⟨k4 k hk,k5 _ (by rw[List.getD_eq_getElem?_getD,List.getElem?_eq_getElem bT];exact List.getElem_mem _)⟩
  obtain⟨g9,MD⟩:=yX (B:=w.heap.size) (cap:=cap) (et:=et) hm (jj w _) hf (Nat.le_refl _) (by simp) (heap_alloc_new w.drew _) h1 r1
   (by simp only[Array.size_append,List.size_toArray,size_zeroCells,k1,r3,List.length_nil];rw[Nat.zero_add,←Nat.add_mul];exact Nat.mul_le_mul_right _ (by omega)) aa
  exact⟨_,_,_,r4,g9,MD⟩
end
end Go.En
namespace Go.En
open Go.RowKit
section
variable {P:Program} {T:cX} {F:e_} {w w':World} {C:Cx} {h rd:Hp} {n:Nat}
theorem qL{v:AV}(hv:ar C n v (.slice none 0 0))(h1:v.one=true):∀{cs rQ:List AV} {a:List Value},dM v cs=some rQ→a.length=cs.length→(∀k,k<cs.length→ar C n (cs.getD k .undef) (a.getD k Go.undef))→
  rQ.length=cs.length∧(∀k,k<cs.length→ar C n (rQ.getD k .undef) (a.getD k Go.undef))∧(cs.all AV.one=true→rQ.all AV.one=true)
 |[],rQ,a,h,_,_=>by simp[dM] at h
 |x::r,rQ,[],h,hl,_=>by simp at hl
 |x::r,rQ,b::a,h,hl,hr=>by
  have hx:=hr 0 (by simp)
  have WI:∀k,k<r.length→ar C n (r.getD k .undef) (a.getD k Go.undef):=fun k hk=>by simpa using hr (k+1) (by simpa using hk)
  by_cases Lw:x=.p .nils
  ·subst Lw
   simp only[dM] at h
   cases h
   have hb:b=.slice none 0 0:=by
    have:=cn (by simpa using hx)
    cases this;rfl
   subst hb
   refine⟨by simp,fun k hk=> ?_,fun ha=> ?_⟩
   ·cases k with
    |zero=>simpa using hv
    |succ k=>simpa using WI k (by simpa using hk)
   ·simp only[List.all_cons,Bool.and_eq_true] at ha ⊢
    exact⟨h1,ha.2⟩
  ·have h':(dM v r).map (x::·)=some rQ:=by
    cases x with
    |p y=>cases y<;>first|exact absurd rfl Lw|exact h
    |_=>exact h
   simp only[Option.map_eq_some_iff] at h'
   obtain⟨r',h2,rfl⟩:=h'
   obtain⟨h3,h4,h5⟩:=qL hv h1 h2 (by simpa using hl) WI
   refine⟨by simp[h3],fun k hk=> ?_,fun ha=> ?_⟩
   ·cases k with
    |zero=>simpa using hx
    |succ k=>simpa using h4 k (by simpa using hk)
   ·simp only[List.all_cons,Bool.and_eq_true] at ha ⊢
    exact⟨ha.1,h5 ha.2⟩
theorem A2(hm:Mem F C h w){own t id:Nat}{cs:List AV}{ok:Bool}{v:Value}{a:Act}{o:Oper}(hf:Bh C h id ((s_ own cs ok).obj id::(s_ own cs ok).aux))(hr:m0 C h.length cs v.cells)(h1:cs.all AV.one=true)
  (he:∀u w',(newVar t v).run P w=.ok u w'→(execOp a.eval o).run P w=.ok (.value (.pointer (some u))) w'):Rr P a o F C h w id ((s_ own cs ok).aux.length+1) ((s_ own cs ok).mk id):=by
 unfold s_ at hf ⊢
 split at hf
 ·rename_i acJ
  rw[if_pos acJ]
  have Cm:pt C h id (.box cs):=hf 0 _ rfl
  obtain⟨u,w',c,h4,h5,h6⟩:=FH (P:=P) (t:=t) hm Cm hr h1
  exact ja Cm (he u w' h4) h5 h6
 ·rename_i acJ
  rw[if_neg acJ]
  have Ba:pt C h (id+1) (.arr 0 own false []):=hf 1 _ rfl
  obtain⟨g1,g2⟩:=hm.nilRow Ba
  have kV:=Ba.ext (.nil 0) h.length
  have Cm:pt (C.set (id+1) (.nil 0)) h id (.box ((dM (.arr (id+1) 0 0 0) cs).getD cs)):=by
   have:=hf 0 _ rfl
   exact⟨this.lt,by rw[a_ (by omega)];exact this.none,this.ob⟩
  have mi:=(show m0 (C.set (id+1) (.nil 0)) h.length cs v.cells from⟨hr.1,fun k hk=>(hr.2 k hk).mono kV (Nat.le_refl _)⟩)
  have key:m0 (C.set (id+1) (.nil 0)) h.length ((dM (.arr (id+1) 0 0 0) cs).getD cs) v.cells∧((dM (.arr (id+1) 0 0 0) cs).getD cs).all AV.one=true:=by
   cases e:dM (.arr (id+1) 0 0 0) cs with
   |none=>exact⟨mi,h1⟩
   |some rQ=>
    obtain⟨k1,k2,k3⟩:=qL (a:=v.cells.toList) g2 rfl e (by simpa using mi.1) (fun k hk=>by
     have:=mi.2 k hk
     simpa [List.getD_eq_getElem?_getD,Array.getD_eq_getD_getElem?] using this)
    refine⟨⟨by show v.cells.size=rQ.length;rw[k1];exact mi.1,fun k hk=> ?_⟩,k3 h1⟩
    have:=k2 k (by rw[←k1];exact hk)
    simpa [List.getD_eq_getElem?_getD,Array.getD_eq_getD_getElem?] using this
  obtain⟨u,w',c,h4,h5,h6⟩:=FH (P:=P) (t:=t) g1 Cm key.1 key.2
  refine⟨_,w',_,he u w' h4,kV.trans (Cm.ext c _),fun j hj=> ?_,h5,h6⟩
  simp only[List.length_singleton] at hj
  rw[a_ (by omega),a_ (by omega)]
theorem K5(hT:T.Ok P)(hm:Mem F C h w)(jM:∀id,rd.at id≠ .dead→h.at id=rd.at id){tm:Tm}{a:Act}(ht:∀i,ar C h.length (look tm i) (a.tmps.getD i Go.undef))
  {own:Nat}{o:Oper}{r:A}(h1:pY T own rd tm o.op=some r)(aV:r.ok=true)(hk:gu true tm o.op=true){id:Nat}(hf:Bh C h id (r.obj id::r.aux)):Rr P a o F C h w id (r.aux.length+1) (r.mk id):=by
 obtain⟨dst,op,type,pos,after,guard⟩:=o
 cases op<;>simp only[pY] at h1<;>try (cases h1;done)
 case alloc t=>
  cases hi:T.info t with
  |none=>rw[hi] at h1;cases h1
  |some i=>
   rw[hi] at h1;cases h1
   obtain⟨z,h2,h3,_⟩:=Nx (w:=w) (C:=C) (n:=h.length) hT hi
   have vP:(i.zero.map AV.p).all AV.one=true:=by
    obtain⟨_,inf,z,_,_,_,_,_,h6,h7,_⟩:=hT.info t i hi
    simp only[List.all_map,List.all_eq_true]
    intro x hx
    obtain⟨k,hk,rfl⟩:=List.getElem_of_mem hx
    have:=(h7 k hk).2
    simpa [List.getD_eq_getElem?_getD,hk] using this
   exact A2 (t:=t) hm hf h3 vP (fun u w' h4=>by simp[execOp,Instr.alloc,h2,h4])
 case box t x=>
  cases hi:T.info t with
  |none=>rw[hi] at h1;cases h1
  |some i=>
   rw[hi] at h1;cases h1
   have hx:=j9 ht (yA hk)
   have PL:(uv (aX tm x)).cells.length=i.size∧(uv (aX tm x)).cells.all AV.one=true:=by
    unfold s_ at aV
    split at aV<;>exact of_decide_eq_true aV
   exact A2 (t:=t) hm hf (mP hx PL.2).1 PL.2 (fun u w' h4=>by simp[execOp,Instr.box,h4])
 case build t parts=>
  split at h1
  ·cases h1
  ·split at h1
   ·rename_i cs hb
    cases h1
    have Cm:pt C h id (.arr 0 own false []):=hf 0 _ rfl
    obtain⟨g1,g2⟩:=hm.nilRow Cm
    have apm:=s9 (P:=P) (w:=w) (C:=C) (n:=h.length) (T:=T) (t:=t) (l:=parts.toList) (u:=fun x=>uv (aX tm x)) (e:=a.eval) hT aV (fun p hp=>by
     have bT:ef true tm (parts.toList.map (·.2))=true:=hk
     simp only[ef,List.all_eq_true] at bT
     exact j9 ht (bT p.2 (List.mem_map_of_mem hp)))
    obtain⟨u,h2,h3⟩:=apm
    rw[hb] at h3
    have Cs:=h3.mono (Cm.ext (.nil 0) h.length) (Nat.le_refl _)
    refine ja (c:=.nil 0) Cm (v:=u) ?_ g1 ?_
    ·have:(Instr.build t (parts.map fun (i,x)=>(i,a.eval x))).run P w=.ok u w:=by simpa using h2
     simp[execOp,this]
    ·cases e:dM (.arr id 0 0 0) cs with
     |none=>simpa [e] using Cs
     |some rQ=>
      cases Cs with
      |agg _ vs k1 k2=>
       obtain⟨k3,k4,_⟩:=qL (a:=vs.toList) g2 rfl e (by simpa using k1) (fun k hk=>by
        have:=k2 k hk
        simpa [List.getD_eq_getElem?_getD,Array.getD_eq_getD_getElem?] using this)
       simp only[e,Option.getD_some]
       refine .agg _ _ (by omega) (fun k hk=> ?_)
       have:=k4 k (by rw[←k3];exact hk)
       simpa [List.getD_eq_getElem?_getD,Array.getD_eq_getD_getElem?] using this
   ·cases h1
 case makeMap t res=>
  cases res<;>simp only at h1<;>try (cases h1;done)
  cases h1
  have Cm:pt C h id (.map []):=hf 0 _ rfl
  exact ja (c:=.map w.heap.size) Cm (v:=.map (some w.heap.size)) (w':=w.alloc (.map #[] 0)) (by simp[execOp,Instr.makeMap])
   (hm.place (dT w _) Cm _ (fun B e=>by cases e;simp) ⟨#[],0,heap_alloc w _,rfl,fun k e hk=>by simp at hk⟩) (.map _ _ Cm.lt (cV _ _ _))
 case buildSlice t len parts=>
  split at h1
  ·cases h1
  simp only[Option.bind_eq_some_iff,Option.map_eq_some_iff] at h1
  obtain⟨e,h2,es,h3,rfl⟩:=h1
  simp only[decide_eq_true_eq] at aV
  obtain⟨h4,h5,h6⟩:=aV
  obtain⟨et,h7,h8⟩:=dn hT h2
  obtain⟨z,h9,jU,nz⟩:=m_ (w:=w) hT h8
  have gK:=run_sizeOf (w:=w) hT h8
  have aa:=wE (M:=C.M) (len:=len) jU h6 (nz C.M) (m:=len*e.size) (Nat.le_refl _)
  have bT:ef true tm (parts.toList.map (·.2))=true:=hk
  obtain⟨c',g1,g2,g3,g4⟩:=uE (C:=C) (n:=h.length) (u:=fun x=>uv (aX tm x)) (e:=a.eval) parts.toList _ es _ (by simp) aa (fun p hp=>by
   simp only[ef,List.all_eq_true] at bT
   exact j9 ht (bT p.2 (List.mem_map_of_mem hp))) h3
  simp only[List.length_replicate] at g2 g3
  obtain⟨g5,g6⟩:=yX (w':=w.alloc (.cells c' et)) (B:=w.heap.size) (cap:=len) (et:=et) hm (dT w _) (hf 0 _ rfl) (Nat.le_refl _) (by simp) (heap_alloc w _) h4 (by omega) (by omega) g4
  rw[g2] at g6
  refine ja (hf 0 _ rfl) ?_ g5 g6
  have Mp:¬(len*e.size=0∧False):=by simp
  have Mp:len*e.size=0→(Array.range (len*e.size)).map ((#[]:Array Value)[· % (#[]:Array Value).size]!)=(Array.range (len*e.size)).map (z.cells[· % z.cells.size]!):=fun hz=>by simp[hz]
  have hf:Instr.fill (fun i=>some (i*e.size,e.size)) ((Array.range (len*e.size)).map (z.cells[· % z.cells.size]!)) (parts.map fun (i,x)=>(i,a.eval x)).toList=some c':=by simpa using g1
  have PG:(Instr.buildSlice t len (parts.map fun (i,x)=>(i,a.eval x))).run P w=.ok (.slice (some ⟨w.heap.size,0,none⟩) len len) (w.alloc (.cells c' et)):=by
   simp only[Instr.buildSlice,Sem.run_bind,run_underlying h7,Result.andThen_ok,gK,Sem.run_ite]
   rw[if_neg (by omega)]
   simp only[Sem.run_pure,Result.andThen_ok]
   split
   ·rename_i hz
    rw[Mp hz,hf];rfl
   ·rw[h9];simp only[Result.andThen_ok]
    rw[hf];rfl
  simp[execOp,PG]
 case makeSlice t l c=>
  obtain⟨jG,jA⟩:=Fk hk
  have hl:=j9 ht jG
  have hc:=j9 ht jA
  split at h1
  ·rename_i k1 n k2 m e1 e2
   rw[e1] at hl;rw[e2] at hc
   simp only[Option.map_eq_some_iff] at h1
   obtain⟨e,h2,rfl⟩:=h1
   simp only[decide_eq_true_eq] at aV
   obtain⟨h4,h5,h6,h7,h8,h9⟩:=aV
   obtain⟨et,g1,g2⟩:=dn hT h2
   obtain⟨z,g3,g4,g5⟩:=m_ (w:=w) hT g2
   have gK:=run_sizeOf (w:=w) hT g2
   obtain⟨inf,g6,g7,g8⟩:=run_typeInfo (w:=w) hT g2
   have Lz:=c9 hl
   have uy:=c9 hc
   have wl:IntKind.i64.wrap n=n:=wrap_small (by omega) (by omega)
   have wm:IntKind.i64.wrap m=m:=wrap_small (by omega) (by omega)
   have aa:=wE (M:=C.M) (len:=n.toNat) g4 h9 (g5 C.M) (m:=m.toNat*e.size) (Nat.mul_le_mul_right _ (by omega))
   obtain⟨g9,MD⟩:=yX (w':=w.alloc (.cells ((Array.range (m.toNat*e.size)).map (z.cells[· % z.cells.size]!)) et)) (B:=w.heap.size) (cap:=m.toNat) (et:=et) hm (dT w _) (hf 0 _ rfl) (Nat.le_refl _) (by simp) (heap_alloc w _) h4
    (by simp;omega) (by simp) aa
   rw[List.length_replicate] at MD
   refine ja (hf 0 _ rfl) ?_ g9 MD
   have hby:((inf.bytes:Int)*m>2^48)=False:=by
    rw[g8];simp;omega
   have Mp:m.toNat*e.size=0→(Array.range (m.toNat*e.size)).map ((#[]:Array Value)[· % (#[]:Array Value).size]!)=(Array.range (m.toNat*e.size)).map (z.cells[· % z.cells.size]!):=fun hz=>by simp[hz]
   have PG:(Instr.makeSlice t (a.eval l) (a.eval c)).run P w=.ok (.slice (some ⟨w.heap.size,0,none⟩) n.toNat m.toNat) (w.alloc (.cells ((Array.range (m.toNat*e.size)).map (z.cells[· % z.cells.size]!)) et)):=by
    rw[Lz,uy]
    simp only[Instr.makeSlice,Sem.run_bind,run_underlying g1,Result.andThen_ok,asInt,asIntOf,Sem.run_pure,g6,wl,wm,hby,Sem.run_ite]
    rw[if_neg (by simp;omega)]
    simp only[run_askRoom,Result.andThen_ok,gK]
    split
    ·rename_i hz
     rw[Mp hz];rfl
    ·rw[g3];rfl
   simp[execOp,PG]
  ·cases h1
 case assign x=>
  split at h1
  ·rename_i hc
   have he:x=.const (.slice none 0 0):=by
    have:=hc.2
    unfold lX at this
    split at this
    ·rfl
    ·cases this
   subst he
   cases h1
   have Cm:pt C h id (.arr 0 own false []):=hf 0 _ rfl
   obtain⟨g1,g2⟩:=hm.nilRow Cm
   exact ja Cm rfl g1 g2
  ·cases h1
 case call c=>
  obtain⟨callee,args,argTypes⟩:=c
  cases callee<;>simp only at h1<;>try (cases h1;done)
  rename_i b
  have tv:ef true tm args.toList=true:=by simpa [gu] using hk
  cases b<;>simp only at h1<;>try (cases h1;done)
  split at h1
  ·rename_i s x t t' e1 e2
   have ha:args= #[s,x]:=by obtain⟨l⟩:=args;simpa using e1
   have hb:argTypes= #[t,t']:=by obtain⟨l⟩:=argTypes;simpa using e2
   subst ha;subst hb
   obtain⟨jG,jA⟩:uk true (aX tm s)=true∧uk true (aX tm x)=true:=by simpa [ef] using tv
   have hs:=j9 ht jG
   have hx:=j9 ht jA
   split at h1
   ·rename_i e e' g1 g2 g3
    simp only[Option.map_eq_some_iff] at h1
    obtain⟨xs,g4,rfl⟩:=h1
    simp only[decide_eq_true_eq] at aV
    rw[g1] at hs
    have Ce:a.eval s=.slice none 0 0:=by
     have:=cn hs
     generalize a.eval s=v at this
     cases this with
     |nils=>rfl
    obtain⟨u,w',c,k1,k2,k3⟩:=vU (P:=P) (ty:=type) hT hm jM g2 g3 g4 hx (hf 0 _ rfl) aV
    exact ja (hf 0 _ rfl) (by simp[execOp,resolve,invoke,builtin,Ce,k1]) k2 k3
   ·cases h1
  ·cases h1
end
end Go.En
namespace Go.En
open Go.RowKit
section
variable {P:Program} {T:cX} {F:e_} {w w':World} {C C':Cx} {h rd:Hp} {n:Nat}
theorem pj{o:Obj}{id:Nat}(aH:id<h.length):Hp.at (h.set id o) id=o:=by simp[Hp.at,aH]
theorem ta{o:Obj}{id j:Nat}(fB:j≠id):Hp.at (h.set id o) j=h.at j:=by simp[Hp.at,Ne.symm fB]
def QS(C C':Cx)(id:Nat):Prop:=C'.M=C.M∧(C'.K=C.K∧C'.I=C.I)∧(C'=C∨∀r b,C'.μ id≠ .loop r b)
theorem js{C:Cx}{id:Nat}:QS C C id:=⟨rfl,⟨rfl,rfl⟩,.inl rfl⟩
theorem Bm{C:Cx}{id:Nat}{c:Cn}(h:∀r b,c≠ .loop r b):QS C (C.set id c) id:=⟨rfl,⟨rfl,rfl⟩,.inr fun r b e=>h r b (by rw[cV] at e;exact e)⟩
theorem Mem.upd(hm:Mem F C h w){id:Nat}(aH:id<h.length)(hU:QS C C' id)(hμ:∀j,j≠id→C'.μ j=C.μ j)(hx:Ext h.length C C'){o':Obj}
  (hos:w'.os=w.os)(htp:w'.tape=w.tape)(ayt:w'.output=w.output)(vj:w.heap.size≤w'.heap.size)
  (hw:∀B,B<w.heap.size→(C.μ id).blk≠some B→w'.heap[B]? =w.heap[B]?)
  (oQ:∀a v,C.M a=some v→w'.cell? a=some v)
  (Ur:∀B,(C'.μ id).blk=some B→(C.μ id).blk=some B∨(w.heap.size≤B∧B<w'.heap.size))
  (ho:kn C' h.length w' (C'.μ id) o')
  (ayi:∀B,(C'.μ id).blk=some B→∀a v,C.M a=some v→a.block=B→∃g o cap sz es,C'.μ id=.arr g B o cap sz∧o'=.arr g sz true es∧a.off<o+es.length*sz):
  Mem F C' (h.set id o') w':=by
 obtain⟨hM,hK,Q7⟩:=hU
 have other:∀j B,j≠id→j<h.length→(C.μ j).blk=some B→w'.heap[B]? =w.heap[B]? :=fun j B hj Gv e=>
  hw B (hm.lt j B Gv e).1 (fun e'=>hj (hm.inj j id B Gv aH e e'))
 refine⟨fun j hj=> ?_,fun a v e=>oQ a v (by rw[←hM];exact e),fun a v e=>hm.src a v (by rw[←hM];exact e),fun j B hj e a v hv eV=> ?_,fun i j B hi hj e1 e2=> ?_,fun j B hj e=> ?_,fun B o e=> ?_,fun B o e j hj e'=> ?_,fun j r b hj e=> ?_, ?_,hm.gl.mono hx.M hx.L⟩
 ·rw[List.length_set] at hj ⊢
  by_cases uw:j=id
  ·subst uw;rw[pj aH];exact ho
  ·rw[ta uw,hμ j uw]
   exact(hm.objs j hj).mono hx (Nat.le_refl _) (fun B e=>other j B uw hj e)
 ·rw[List.length_set] at hj
  rw[hM] at hv
  by_cases uw:j=id
  ·subst uw;rw[pj aH];exact ayi B e a v hv eV
  ·rw[ta uw]
   rw[hμ j uw] at e ⊢
   exact hm.sep j B hj e a v hv eV
 ·rw[List.length_set] at hi hj
  by_cases h1:i=id<;>by_cases h2:j=id
  ·omega
  ·subst h1
   rw[hμ j h2] at e2
   rcases Ur B e1 with e3|⟨e3,_⟩
   ·exact hm.inj i j B hi hj e3 e2
   ·have:=(hm.lt j B hj e2).1;omega
  ·subst h2
   rw[hμ i h1] at e1
   rcases Ur B e2 with e3|⟨e3,_⟩
   ·exact hm.inj i j B hi hj e1 e3
   ·have:=(hm.lt i B hi e1).1;omega
  ·rw[hμ i h1] at e1;rw[hμ j h2] at e2
   exact hm.inj i j B hi hj e1 e2
 ·rw[List.length_set] at hj
  by_cases uw:j=id
  ·subst uw
   rcases Ur B e with e3|⟨e3,e4⟩
   ·obtain⟨h1,h2⟩:=hm.lt j B hj e3
    exact⟨Nat.lt_of_lt_of_le h1 vj,h2⟩
   ·exact⟨e4,.inr (Nat.le_trans hm.fr.size e3)⟩
  ·rw[hμ j uw] at e
   obtain⟨h1,h2⟩:=hm.lt j B hj e
   exact⟨Nat.lt_of_lt_of_le h1 vj,h2⟩
 ·have e:C.kp B o:=by rw[Cx.kp,hK.1,hK.2] at e;exact e
  have h1:=hm.kept B o e
  rw[hw B (Array.getElem?_eq_some_iff.1 h1).1 (hm.ksep B o e id aH)];exact h1
 ·rw[List.length_set] at hj
  have e:C.kp B o:=by rw[Cx.kp,hK.1,hK.2] at e;exact e
  by_cases uw:j=id
  ·subst uw
   rcases Ur B e' with e3|⟨e3,_⟩
   ·exact hm.ksep B o e j hj e3
   ·have:=(Array.getElem?_eq_some_iff.1 (hm.kept B o e)).1
    omega
  ·rw[hμ j uw] at e'
   exact hm.ksep B o e j hj e'
 ·rw[List.length_set] at hj
  by_cases uw:j=id
  ·subst uw
   rcases Q7 with h1|h1
   ·subst h1;exact hm.bnd j r b hj e
   ·exact absurd e (h1 r b)
  ·rw[hμ j uw] at e
   exact hm.bnd j r b hj e
 ·refine⟨hos.trans hm.fr.os,htp.trans hm.fr.tape,ayt.trans hm.fr.output,Nat.le_trans hm.fr.size vj,fun k hk hs=> ?_⟩
  rw[←hm.fr.block k hk hs]
  refine hw k (Nat.lt_of_lt_of_le hk hm.fr.size) (fun e=> ?_)
  rcases (hm.lt id k aH e).2 with h1|h1
  ·exact hs h1
  ·omega
theorem B4{m:Nat}{x:AV}{v:Value}(hr:ar C n x v)(hb:db m x=true):ar C m x v:=by
 cases hr<;>simp[db] at hb
 ·exact .p _ _ ‹_›
 ·exact .ref _ _ _ hb ‹_›
 ·exact .arr _ _ _ _ _ _ _ _ _ hb ‹_› ‹_› ‹_›
 ·exact .arrN _ _ hb ‹_›
 ·exact .arrS _ _ _ _ _ _ _ hb ‹_› ‹_›
 ·exact .elt _ _ _ _ _ _ _ _ hb ‹_›
 ·exact .eltS _ _ _ _ _ _ _ hb ‹_› ‹_›
 ·exact .map _ _ hb ‹_›
 ·exact .it _ _ _ _ hb ‹_› ‹_›
 ·exact .yl _ _ _ hb ‹_›
theorem m0.mono{C C':Cx}{n n':Nat}{cs:List AV}{a:Array Value}(hr:m0 C n cs a)(h:Ext n C C')(hn:n≤n'):m0 C' n' cs a:=⟨hr.1,fun k hk=>(hr.2 k hk).mono h hn⟩
theorem j6{B:Nat}{c c':Array Value}{et:TypeId}(hb:w.heap[B]? =some (.cells c et (0,0))):
  (w.setRow B c').os=w.os∧(w.setRow B c').tape=w.tape∧(w.setRow B c').output=w.output∧(w.setRow B c').heap.size=w.heap.size∧(w.setRow B c').heap[B]? =some (.cells c' et (0,0))∧
  ∀k,k≠B→(w.setRow B c').heap[k]? =w.heap[k]? :=
 ⟨rfl,rfl,rfl,by simp,setRow_heap w B c c' et _ hb,fun k hk=>setRow_other w B k c' hk⟩
end
end Go.En
namespace Go.En
open Go.RowKit
section
variable {P:Program} {T:cX} {F:e_} {w w':World} {C C':Cx} {h rd:Hp} {n:Nat}
theorem BE{x y:PV}{off:Nat}{ps:List PV}(hs:x.setCells off ps=some y)(vP:∀p∈ps,(AV.p p).one=true):
  off+ps.length≤x.cells.length∧y.cells.length=x.cells.length∧∀k,y.cells.getD k .nils=if k<off then x.cells.getD k .nils else if k<off+ps.length then ps.getD (k-off) .nils else x.cells.getD k .nils:=by
 unfold PV.setCells at hs
 split at hs
 ·rename_i cs
  split at hs
  ·rename_i hle
   cases hs
   refine⟨hle,by simp[PV.cells,rV];omega,fun k=> ?_⟩
   simp only[PV.cells,rV,List.getD_eq_getElem?_getD]
   rw[nj cs ps off k hle]
   split
   ·rfl
   ·split<;>rfl
  ·cases hs
 ·rename_i fB
  split at hs
  ·rename_i y'
   cases hs
   have hx:x.cells=[x]:=by cases x<;>first|rfl|exact absurd rfl (fB _)
   have hy:y.cells=[y]:=by
    have:=vP y (by simp)
    cases y<;>first|rfl|(simp[AV.one] at this)
   rw[hx,hy]
   refine⟨by simp,rfl,fun k=> ?_⟩
   cases k with
   |zero=>simp
   |succ k=>simp
  ·cases hs
theorem N7{cs:List AV}{ps:List PV}(h:cZ cs=some ps)(h1:cs.all AV.one=true):∀p∈ps,(AV.p p).one=true:=by
 obtain⟨h2,h3⟩:=mm h
 intro p hp
 obtain⟨k,hk,rfl⟩:=List.getElem_of_mem hp
 have h4:=h3 k (by omega)
 simp only[List.all_eq_true] at h1
 have h5:=h1 (cs.getD k .undef) (by rw[List.getD_eq_getElem?_getD,List.getElem?_eq_getElem (by omega)];exact List.getElem_mem _)
 rw[h4] at h5
 simpa [List.getD_eq_getElem?_getD,hk] using h5
theorem Bw(hT:T.Ok P)(hm:Mem F C h w){t:Nat}{x y:AV}{xv yv:Value}{h':Hp}(hs:ni T h t x y=some h')(hx:ar C h.length x xv)(hy:ar C h.length y yv):
  ∃w',(Instr.storeAt t xv yv).run P w=.ok () w'∧Mem F C h' w'∧h'.length=h.length:=by
 unfold ni at hs
 cases hi:T.info t with
 |none=>rw[hi] at hs;cases hs
 |some i=>
  simp only[hi] at hs
  split at hs
  ·rename_i hc
   obtain⟨hc1,Gz⟩:=hc
   obtain⟨⟨hl,Ns⟩,vP⟩:=mP hy Gz
   have gK:=run_sizeOf (w:=w) hT hi
   have hvs:yv.cells.toList.length=i.size:=by simp[hl,hc1]
   have run:∀(B o:Nat) (c:Array Value) (et:TypeId),xv=.pointer (some ⟨B,o,none⟩)→w.heap[B]? =some (.cells c et (0,0))→o+i.size≤c.size→
     (Instr.storeAt t xv yv).run P w=.ok () (w.setRow B (c.toList.take o++yv.cells.toList++c.toList.drop (o+yv.cells.toList.length)).toArray):=by
    intro B o c et e hb ES
    subst e
    have:=run_storeCells_at P B o et yv.cells.toList 0 c w hb (by omega) vP
    simp only[Nat.add_zero] at this
    simp[Instr.storeAt,Instr.sureAddr,storeVar,gK,hl,hc1,this]
   split at hs
   ·rename_i id off
    split at hs
    ·rename_i cs aH
     split at hs
     ·rename_i WU
      cases hs
      cases hx with
      |ref _ _ B h1 h2=>
       have ho:=hm.objs id h1
       rw[aH,h2] at ho
       obtain⟨c,et,h3,h4,h5,h6⟩:=ho
       refine⟨_,run B off c et rfl h3 (by omega), ?_,by simp⟩
       obtain⟨q1,q2,q3,q4,q5,q6⟩:=j6 (c':=(c.toList.take off++yv.cells.toList++c.toList.drop (off+yv.cells.toList.length)).toArray) h3
       refine hm.upd h1 js (fun _ _=>rfl) (Ext.refl _ _) q1 q2 q3 (by rw[q4];exact Nat.le_refl _) (fun B' _ fB=>q6 B' (fun e=>fB (by rw[h2,e];rfl))) (fun a v hv=> ?_) (fun B' e=>.inl e) ?_ (fun B' e a v hv eV=> ?_)
       ·have fB:a.block≠B:=fun e=>by
         obtain⟨g,o,cap,sz,es,e1,_⟩:=hm.sep id B h1 (by rw[h2];rfl) a v hv e
         rw[h2] at e1;cases e1
        exact(World.cell?_of_block (q6 _ fB)).trans (hm.prot a v hv)
       ·rw[h2]
        have Lz:m0 C h.length y.cells yv.cells:=⟨hl,Ns⟩
        have Lt:=qE (off:=off) ⟨h4,h6⟩ Lz (by omega)
        refine⟨_,et,q5,Lt.1, ?_,Lt.2⟩
        simp only[splice,List.all_append,Bool.and_eq_true]
        simp only[List.all_eq_true] at h5 Gz ⊢
        exact⟨⟨fun z hz=>h5 z (List.mem_of_mem_take hz),Gz⟩,fun z hz=>h5 z (List.mem_of_mem_drop hz)⟩
       ·obtain⟨g,o,cap,sz,es,e1,_⟩:=hm.sep id B' h1 e a v hv eV
        rw[h2] at e1;cases e1
     ·cases hs
    ·cases hs
   ·rename_i id g j off
    split at hs
    ·rename_i g' sz es ps aH A6
     split at hs
     ·rename_i vQ
      obtain⟨rfl,hj⟩:=vQ
      simp only[Option.bind_eq_some_iff,Option.map_eq_some_iff] at hs
      obtain⟨p,hp,q,hq,rfl⟩:=hs
      obtain⟨k1,k2⟩:=mm A6
      have ax2:=N7 A6 Gz
      obtain⟨k3,k4,k5⟩:=BE hq ax2
      cases hx with
      |elt _ _ _ _ B o cap i4 h1 h2=>
       have ho:=hm.objs id h1
       rw[aH,h2] at ho
       obtain⟨_,rfl,HT,h3,h4,c,et,h5,h6,h7⟩:=ho
       have Jy:p.cells.length=i4:=h4 p (List.mem_of_getElem? hp)
       have aa:dU C.M i4 es c o:=⟨h4,h7⟩
       have ny:=uo (sz:=i4) (j:=0) hj HT
       have ayG:(j+1)*i4≤es.length*i4:=Nat.mul_le_mul_right _ hj
       rw[Nat.succ_mul] at ayG
       have EV:es.length*i4≤cap*i4:=Nat.mul_le_mul_right _ h3
       refine⟨_,run B (o+j*i4+off) c et rfl h5 (by omega), ?_,by simp⟩
       obtain⟨q1,q2,q3,q4,q5,q6⟩:=j6 (c':=(c.toList.take (o+j*i4+off)++yv.cells.toList++c.toList.drop (o+j*i4+off+yv.cells.toList.length)).toArray) h5
       have Rk:∀a v,C.M a=some v→a.block≠B:=fun a v hv e=>by
        obtain⟨g,o,cap,sz,lA,e1,e2,_⟩:=hm.sep id B h1 (by rw[h2];rfl) a v hv e
        rw[aH] at e2;cases e2
       refine hm.upd h1 js (fun _ _=>rfl) (Ext.refl _ _) q1 q2 q3 (by rw[q4];exact Nat.le_refl _) (fun B' _ fB=>q6 B' (fun e=>fB (by rw[h2,e];rfl))) (fun a v hv=> ?_) (fun B' e=>.inl e) ?_ (fun B' e a v hv eV=> ?_)
       ·exact(World.cell?_of_block (q6 _ (Rk a v hv))).trans (hm.prot a v hv)
       ·rw[h2]
        have Uk:dU C.M i4 (es.set j q) (c.toList.take (o+j*i4+off)++yv.cells.toList++c.toList.drop (o+j*i4+off+yv.cells.toList.length)).toArray o:=by
         refine dU.of (fun z hz=> ?_) (fun i' Cj k hk=> ?_)
         ·rcases List.mem_or_eq_of_mem_set hz with h8|h8
          ·exact h4 z h8
          ·rw[h8,k4,Jy]
         ·rw[List.length_set] at Cj
          rw[jQ (by omega)]
          have hold:=aa.get Cj hk
          by_cases Gx:i'=j
          ·subst Gx
           have e1:(es.set i' q).getD i' .nils=q:=by simp[List.getD_eq_getElem?_getD,Cj]
           have e2:es.getD i' .nils=p:=by simp[List.getD_eq_getElem?_getD,hp]
           rw[e1,k5 k]
           rw[e2] at hold
           by_cases c1:k<off
           ·rw[if_pos c1,if_pos (by omega)];exact hold
           ·by_cases c2:k<off+ps.length
            ·rw[if_neg c1,if_pos c2,if_neg (by omega),if_pos (by omega)]
             have e3:o+(i'*i4+k)-(o+i'*i4+off)=k-off:=by omega
             rw[e3]
             have h9:=Ns (k-off) (by omega)
             rw[k2 (k-off) (by omega)] at h9
             have jU:yv.cells.toList.getD (k-off) Go.undef=yv.cells.getD (k-off) Go.undef:=by simp[List.getD_eq_getElem?_getD,Array.getD_eq_getD_getElem?]
             rw[jU]
             refine⟨cn h9,vP _ ?_⟩
             have:k-off<yv.cells.size:=by omega
             simp[Array.getD_eq_getD_getElem?,this]
            ·rw[if_neg c1,if_neg c2,if_neg (by omega),if_neg (by omega)];exact hold
          ·have e1:(es.set j q).getD i' .nils=es.getD i' .nils:=by simp[List.getD_eq_getElem?_getD,Ne.symm Gx]
           rw[e1]
           rcases Nat.lt_or_gt_of_ne Gx with h8|h8
           ·have:(i'+1)*i4≤j*i4:=Nat.mul_le_mul_right _ h8
            rw[Nat.succ_mul] at this
            rw[if_pos (by omega)];exact hold
           ·have:(j+1)*i4≤i'*i4:=Nat.mul_le_mul_right _ h8
            rw[Nat.succ_mul] at this
            rw[if_neg (by omega),if_neg (by omega)];exact hold
        refine⟨rfl,rfl,HT,by simpa using h3,Uk.1,_,et,q5, ?_,Uk.2⟩
        simp;omega
       ·exact absurd (by rw[h2] at e;cases e;exact eV) (Rk a v hv)
      |eltS _ _ _ _ g' _ _ h1 h2 h3=>
       have ho:=hm.objs id h1
       rw[aH] at ho
       cases hc:C.μ id<;>rw[hc] at ho h2<;>simp[Cn.gen] at h2
       ·obtain⟨h4,_⟩:=ho;omega
       ·obtain⟨h4,_⟩:=ho;omega
     ·cases hs
    ·cases hs
   ·cases hs
  ·cases hs
end
end Go.En
namespace Go.En
open Go.RowKit
section
variable {P:Program} {T:cX} {F:e_} {w w':World} {C C':Cx} {h rd:Hp} {n:Nat}
theorem u4{α:Type}(cs vs:List α)(off k:Nat)(hle:off≤cs.length):
  (cs.take off++vs++cs.drop (off+vs.length))[k]? =if k<off then cs[k]? else if k<off+vs.length then vs[k-off]? else cs[k]? :=by
 have h3:(cs.take off).length=off:=by simp;omega
 rw[List.append_assoc]
 by_cases c1:k<off
 ·rw[List.getElem?_append_left (by omega),List.getElem?_take_of_lt c1,if_pos c1]
 ·rw[List.getElem?_append_right (by omega),h3,if_neg c1]
  by_cases c2:k<off+vs.length
  ·rw[List.getElem?_append_left (by omega),if_pos c2]
  ·rw[List.getElem?_append_right (by omega),List.getElem?_drop,if_neg c2,show off+vs.length+(k-off-vs.length)=k from by omega]
theorem dU.splice{M:Addr→Option Value}{sz:Nat}{es xs:List PV}{c:Array Value}{o p:Nat}{news:List Value}(hr:dU M sz es c o)(hp:p≤es.length)(hx:∀y∈xs,y.cells.length=sz)
  (hl:news.length=xs.length*sz)(hn:∀k,k<(flat xs).length→bu M ((flat xs).getD k .nils) (news.getD k Go.undef))(h1:∀u∈news,u.oneCell'=true)(ES:o+p*sz+news.length≤c.size):
  dU M sz (es.take p++xs++es.drop (p+xs.length)) (c.toList.take (o+p*sz)++news++c.toList.drop (o+p*sz+news.length)).toArray o:=by
 refine dU.of (fun y hy=> ?_) (fun i hi j hj=> ?_)
 ·simp only[List.mem_append] at hy
  rcases hy with(h|h)|h
  ·exact hr.1 y (List.mem_of_mem_take h)
  ·exact hx y h
  ·exact hr.1 y (List.mem_of_mem_drop h)
 ·rw[jQ (by omega)]
  have e0:∀k,(es.take p++xs++es.drop (p+xs.length)).getD k .nils=if k<p then es.getD k .nils else if k<p+xs.length then xs.getD (k-p) .nils else es.getD k .nils:=by
   intro k
   rw[List.getD_eq_getElem?_getD,u4 es xs p k hp]
   split
   ·rw[List.getD_eq_getElem?_getD]
   ·split<;>rw[List.getD_eq_getElem?_getD]
  rw[e0]
  have zp:i<es.length∨i<p+xs.length:=by
   simp at hi;omega
  rcases Nat.lt_or_ge i p with c1|c1
  ·have:(i+1)*sz≤p*sz:=Nat.mul_le_mul_right _ c1
   rw[Nat.succ_mul] at this
   rw[if_pos c1,if_pos (by omega)]
   exact hr.get (by omega) hj
  ·have Nh:p*sz≤i*sz:=Nat.mul_le_mul_right _ c1
   rcases Nat.lt_or_ge i (p+xs.length) with c2|c2
   ·have hk:i-p<xs.length:=by omega
    have bW:=uo hk hj
    have e1:i*sz+j=p*sz+((i-p)*sz+j):=by rw[Nat.sub_mul];omega
    rw[if_neg (by omega),if_pos c2,if_neg (by omega),if_pos (by omega)]
    have e2:o+(i*sz+j)-(o+p*sz)=(i-p)*sz+j:=by omega
    rw[e2]
    have h2:=hn ((i-p)*sz+j) (by rw[bK hx];exact bW)
    rw[iC hx hk hj] at h2
    refine⟨h2,h1 _ ?_⟩
    rw[List.getD_eq_getElem?_getD,List.getElem?_eq_getElem (by omega)]
    exact List.getElem_mem _
   ·have:(p+xs.length)*sz≤i*sz:=Nat.mul_le_mul_right _ c2
    rw[Nat.add_mul] at this
    rw[if_neg (by omega),if_neg (by omega),if_neg (by omega),if_neg (by omega)]
    exact hr.get (by omega) hj
theorem dU.drop{M:Addr→Option Value}{sz:Nat}{es:List PV}{c:Array Value}{o off:Nat}(hr:dU M sz es c o):dU M sz (es.drop off) c (o+off*sz):=by
 refine dU.of (fun y hy=>hr.1 y (List.mem_of_mem_drop hy)) (fun i hi j hj=> ?_)
 have Cj:off+i<es.length:=by simp at hi;omega
 have e1:(es.drop off).getD i .nils=es.getD (off+i) .nils:=by simp[List.getD_eq_getElem?_getD,List.getElem?_drop]
 rw[e1]
 have:=hr.get Cj hj
 rw[Nat.add_mul] at this
 rw[show o+off*sz+(i*sz+j)=o+(off*sz+i*sz+j) from by omega]
 exact this
theorem run_append_fits(hT:T.Ok P){t t' ty et Rg Qj:Nat}{e:TI}{B a kI vG m:Nat}{x:Value}{c:Array Value}{news:List Value}(ht:P.underlying t=some (.slice et))(Vo:P.underlying t'=some (.slice Rg))
  (he:T.info et=some e)(hn:(Builtin.firstCells e.size m x).run P w=.ok news.toArray w)(hl:Builtin.lenOf x=pure m)
  (hb:w.heap[B]? =some (.cells c Qj (0,0)))(h1:∀u∈news,u.oneCell'=true)(ES:a+kI*e.size+news.length≤c.size)(EH:kI+m≤vG):
  (Builtin.append_ #[t,t'] ty #[.slice (some ⟨B,a,none⟩) kI vG,x]).run P w=
    .ok (.slice (some ⟨B,a,none⟩) (kI+m) vG) (w.setRow B (c.toList.take (a+kI*e.size)++news++c.toList.drop (a+kI*e.size+news.length)).toArray):=by
 have gK:=run_sizeOf (w:=w) hT he
 have cm:=run_storeCells_at P B (a+kI*e.size) Qj news 0 c w hb (by omega) h1
 simp only[Nat.add_zero] at cm
 simp[Builtin.append_,run_underlying ht,run_underlying Vo,gK,hl,EH,hn,jR,cm]
end
end Go.En
namespace Go.En
open Go.RowKit
section
variable {P:Program} {T:cX} {F:e_} {w w':World} {C C':Cx} {h rd:Hp} {n:Nat}
theorem yY(hm:Mem F C h w){id g off len g' sz:Nat}{sh:Bool}{es:List PV}{v:Value}(aH:h.at id=.arr g' sz sh es)(hg:g=g')(hr:ar C h.length (.arr id g off len) v):
  (∃B o cap a,id<h.length∧C.μ id=.arr g B o cap sz∧off+len≤cap∧(a=o+off*sz∨off=cap)∧v=.slice (some ⟨B,a,none⟩) len (cap-off)∧0<sz∧es.length≤cap∧
    ∃c et,w.heap[B]? =some (.cells c et (0,0))∧o+cap*sz≤c.size∧dU C.M sz es c o)∨(id<h.length∧C.μ id=.nil g∧es=[]∧off=0∧len=0∧v=.slice none 0 0):=by
 subst hg
 cases hr with
 |arr _ _ _ _ B o cap i4 a h1 h2 h3 h4=>
  have ho:=hm.objs id h1
  rw[aH,h2] at ho
  obtain⟨_,rfl,HT,h5,h6,c,et,h7,h8,h9⟩:=ho
  exact .inl ⟨B,o,cap,a,h1,h2,h3,h4,rfl,HT,h5,c,et,h7,h8,h6,h9⟩
 |arrN _ _ h1 h2=>
  have ho:=hm.objs id h1
  rw[aH,h2] at ho
  exact .inr ⟨h1,h2,ho.2,rfl,rfl,rfl⟩
 |arrS _ _ _ _ g' a cap h1 h2 h3=>
  have ho:=hm.objs id h1
  rw[aH] at ho
  cases hc:C.μ id<;>rw[hc] at ho h2<;>simp[Cn.gen] at h2
  ·obtain⟨h4,_⟩:=ho;omega
  ·obtain⟨h4,_⟩:=ho;omega
theorem Rk(hm:Mem F C h w){id:Nat}(aH:id<h.length){g sz:Nat}{es:List PV}(ho:h.at id=.arr g sz false es){B:Nat}(hB:(C.μ id).blk=some B):∀a v,C.M a=some v→a.block≠B:=by
 intro a v hv e
 obtain⟨g,o,cap,sz,lA,e1,e2,_⟩:=hm.sep id B aH hB a v hv e
 rw[ho] at e2;cases e2
theorem Cx.set_bump{C:Cx}{id g g':Nat}{c:Cn}(h1:(C.μ id).gen=some g)(h2:c.gen=some g')(h3:g<g')(n:Nat):Ext n C (C.set id c):=by
 refine⟨fun _ _ h=>h,fun _ _ h=>h,fun _ _ h=>h,rfl,fun j _=> ?_⟩
 by_cases e:j=id
 ·subst e;exact .inr (.inl ⟨g,g',h1,by rw[cV];exact h2,h3⟩)
 ·exact .inl (by simp[Cx.set,e])
theorem CR(hT:T.Ok P)(hm:Mem F C h w){t t' ty:Nat}{e e':TI}{x:AV}{sv v:Value}{xs:List PV}{id g off len sz:Nat}{sh:Bool}{es:List PV}{r:Hp×AV}
  (aH:h.at id=.arr g sz sh es)(he:elemOf T t=some e)(ET:elemOf T t'=some e')(hp:rM h x=some xs)(hs:ar C h.length (.arr id g off len) sv)(hr:ar C h.length x v)
  (h0:0<sz)(gK:sz=e.size)(h2:(len+xs.length)*e.bytes≤1099511627776)(h3:len+xs.length≤1099511627776)(h4:∀y∈xs,y.cells.length=e.size)
  (kb:(if off+len=es.length then(if off=0∧xs.length=0 then some (h,.arr id g off len) else some (h.set id (.arr (g+xs.length+(if off=0 then 0 else 1)) sz sh (es.drop off++xs)),.arr id (g+xs.length+(if off=0 then 0 else 1)) 0 (len+xs.length)))
    else if off+len+xs.length≤es.length∧sh=false then some (h.set id (.arr g sz sh (es.take (off+len)++xs++es.drop (off+len+xs.length))),.arr id g off (len+xs.length)) else none)=some r):
  ∃u w' C',(Builtin.append_ #[t,t'] ty #[sv,v]).run P w=.ok u w'∧Ext h.length C C'∧Mem F C' r.1 w'∧r.1.length=h.length∧ar C' h.length r.2 u∧∀j,j≠id→C'.μ j=C.μ j:=by
 subst gK
 obtain⟨et,g1,g2⟩:=dn hT he
 obtain⟨Rg,E0,_⟩:=dn hT ET
 obtain⟨news,k1,k2,k3,k4,k5⟩:=tX (P:=P) h4 (BO hm (fun _ _=>rfl) hp hr)
 have aoR:=run_sizeOf (w:=w) hT g2
 rcases yY hm aH rfl hs with⟨B,o,cap,a,hO,hμ,EV,ha,rfl,_,WR,c,Qj,hB,ES,aa⟩|⟨hO,hμ,rfl,rfl,rfl,rfl⟩
 ·
  by_cases EH:len+xs.length≤cap-off
  ·
   have key:off+len≤es.length→∃c',(Builtin.append_ #[t,t'] ty #[.slice (some ⟨B,a,none⟩) len (cap-off),v]).run P w=.ok (.slice (some ⟨B,a,none⟩) (len+xs.length) (cap-off)) (w.setRow B c')∧c'.size=c.size∧
     dU C.M e.size (es.take (off+len)++xs++es.drop (off+len+xs.length)) c' o∧∀k,k<o+(off+len)*e.size→c'[k]? =c[k]? :=by
    intro ayq
    by_cases lZ:xs.length=0
    ·have M9:xs=[]:=List.eq_nil_of_length_eq_zero lZ
     subst M9
     have Nl:news=[]:=List.eq_nil_of_length_eq_zero (by simpa using k1)
     subst Nl
     refine⟨c, ?_,rfl,by simpa using aa,fun _ _=>rfl⟩
     rw[setRow_self w B c Qj _ hB]
     have:=k2 w rfl
     simp only[List.length_nil] at this k3
     have hle:len≤cap-off:=by omega
     simp[Builtin.append_,run_underlying g1,run_underlying E0,aoR,k3,this,hle,storeCells]
    ·have zH:a=o+off*e.size:=by
      rcases ha with ha|ha
      ·exact ha
      ·omega
     subst zH
     have Cf:o+off*e.size+len*e.size=o+(off+len)*e.size:=by rw[Nat.add_mul];omega
     have hmul:(off+len+xs.length)*e.size≤cap*e.size:=Nat.mul_le_mul_right _ (by omega)
     rw[Nat.add_mul] at hmul
     refine⟨_,run_append_fits (Qj:=Qj) hT g1 E0 g2 (k2 w rfl) k3 hB k5 (by rw[Cf,k1];omega) EH, ?_, ?_, ?_⟩
     ·simp;omega
     ·rw[Cf];exact aa.splice ayq h4 k1 k4 k5 (by rw[k1];omega)
     ·intro k hk
      rw[Cf,List.getElem?_toArray,u4 _ _ _ _ (by simp;omega),if_pos hk]
      simp
   split at kb
   ·rename_i AH
    obtain⟨c',r1,r2,r3,r4⟩:=key (by omega)
    obtain⟨q1,q2,q3,q4,q5,q6⟩:=j6 (c':=c') hB
    have e1:es.take (off+len)++xs++es.drop (off+len+xs.length)=es++xs:=by
     rw[AH,List.take_length,List.drop_eq_nil_of_le (by omega),List.append_nil]
    rw[e1] at r3
    split at kb
    ·rename_i hz
     cases kb
     have M9:xs=[]:=List.eq_nil_of_length_eq_zero hz.2
     subst M9
     refine⟨_,_,C,r1,Ext.refl _ _, ?_,rfl, ?_,fun _ _=>rfl⟩
     ·have hu:=hm.upd (C':=C) (o':=.arr g e.size sh es) (w':=w.setRow B c') hO js (fun _ _=>rfl) (Ext.refl _ _) q1 q2 q3 (by rw[q4];exact Nat.le_refl _) (fun B' _ fB=>q6 B' (fun e=>fB (by rw[hμ,e];rfl)))
       (fun a v hv=> ?_) (fun B' e=>.inl e) ?_ (fun B' e1 a v hv eV=> ?_)
      ·have:h.set id (.arr g e.size sh es)=h:=by
        apply List.ext_getElem?
        intro j
        by_cases hj:j=id
        ·subst hj
         rw[List.getElem?_set_self hO]
         have:=aH
         simp only[Hp.at,List.getElem?_eq_getElem hO,Option.getD_some] at this
         rw[List.getElem?_eq_getElem hO,this]
        ·rw[List.getElem?_set_ne (Ne.symm hj)]
       rw[this] at hu;exact hu
      ·by_cases eV:a.block=B
       ·obtain⟨g',o',kY,i4,lA,s1,s2,s3⟩:=hm.sep id B hO (by rw[hμ];rfl) a v hv eV
        rw[hμ] at s1;cases s1
        rw[aH] at s2;cases s2
        have jb:=hm.prot a v hv
        have Lt:a.spot=none:=by
         unfold World.cell? at jb;rw[eV,hB] at jb;simp only at jb
         split at jb
         ·cases jb
         ·rename_i hs;simpa using hs
        have ea:a=⟨B,a.off,none⟩:=by cases a;simp at eV Lt;subst eV;subst Lt;rfl
        rw[ea] at jb ⊢
        rw[cH hB] at jb
        rw[cH q5,r4 _ (by rw[AH];exact s3)];exact jb
       ·exact(World.cell?_of_block (q6 _ eV)).trans (hm.prot a v hv)
      ·rw[hμ]
       refine⟨rfl,rfl,h0,WR,aa.1,c',Qj,q5,by omega, ?_⟩
       have:=r3;rw[List.append_nil] at this;exact this.2
      ·obtain⟨g',o',kY,i4,lA,s1,s2,s3⟩:=hm.sep id B' hO e1 a v hv eV
       rw[aH] at s2;cases s2
       exact⟨_,o',kY,_,es,s1,rfl,s3⟩
     ·simpa using ar.arr id g off len B o cap e.size a hO hμ EV ha
    ·rename_i hz
     cases kb
     let G:=g+xs.length+(if off=0 then 0 else 1)
     have hG:g<G:=by
      show g<g+xs.length+(if off=0 then 0 else 1)
      split
      ·have:xs.length≠0:=fun e=>hz ⟨by assumption,e⟩
       omega
      ·omega
     have hC:=Cx.set_bump (C:=C) (id:=id) (g:=g) (g':=G) (c:=.arr G B (o+off*e.size) (cap-off) e.size) (by rw[hμ];rfl) rfl hG h.length
     refine⟨_,_,C.set id (.arr G B (o+off*e.size) (cap-off) e.size),r1,hC, ?_,by simp, ?_,fun j hj=>a_ hj⟩
     ·refine hm.upd (C':=C.set id (.arr G B (o+off*e.size) (cap-off) e.size)) hO (Bm (by intro _ _ e;cases e)) (fun j hj=>a_ hj) hC q1 q2 q3 (by rw[q4];exact Nat.le_refl _) (fun B' _ fB=>q6 B' (fun e=>fB (by rw[hμ,e];rfl)))
       (fun a v hv=> ?_) (fun B' e=>.inl (by rw[cV] at e;rw[hμ];exact e)) ?_ (fun B' e' a v hv eV=> ?_)
      ·by_cases eV:a.block=B
       ·obtain⟨g',o',kY,i4,lA,s1,s2,s3⟩:=hm.sep id B hO (by rw[hμ];rfl) a v hv eV
        rw[hμ] at s1;cases s1
        rw[aH] at s2;cases s2
        have jb:=hm.prot a v hv
        have Lt:a.spot=none:=by
         unfold World.cell? at jb;rw[eV,hB] at jb;simp only at jb
         split at jb
         ·cases jb
         ·rename_i hs;simpa using hs
        have ea:a=⟨B,a.off,none⟩:=by cases a;simp at eV Lt;subst eV;subst Lt;rfl
        rw[ea] at jb ⊢
        rw[cH hB] at jb
        rw[cH q5,r4 _ (by rw[AH];exact s3)];exact jb
       ·exact(World.cell?_of_block (q6 _ eV)).trans (hm.prot a v hv)
      ·rw[cV]
       have hd:=r3.drop (off:=off)
       rw[List.drop_append_of_le_length (by omega)] at hd
       refine⟨rfl,rfl,h0,by simp;omega,hd.1,c',Qj,q5, ?_,hd.2⟩
       rw[r2,Nat.sub_mul]
       have:off*e.size≤cap*e.size:=Nat.mul_le_mul_right _ (by omega)
       omega
      ·rw[cV] at e' ⊢
       cases e'
       obtain⟨g',o',kY,i4,lA,s1,s2,s3⟩:=hm.sep id B hO (by rw[hμ];rfl) a v hv eV
       rw[hμ] at s1;cases s1
       rw[aH] at s2;cases s2
       refine⟨G,_,_,_,_,rfl,rfl, ?_⟩
       have:(es.drop off++xs).length=es.length-off+xs.length:=by simp
       rw[this,Nat.add_mul,Nat.sub_mul]
       have:off*e.size≤es.length*e.size:=Nat.mul_le_mul_right _ (by omega)
       omega
     ·have vQ:0+(len+xs.length)≤cap-off:=by omega
      have haa:a=o+off*e.size+0*e.size∨0=cap-off:=by
       clear key r1 r2 r3 r4 q1 q2 q3 q4 q5 q6 hC
       rcases ha with ha|ha
       ·left;rw[Nat.zero_mul];exact ha
       ·right;rw[ha];exact(Nat.sub_self _).symm
      have:=ar.arr (C:=C.set id (.arr G B (o+off*e.size) (cap-off) e.size)) (n:=h.length) id G 0 (len+xs.length) B (o+off*e.size) (cap-off) e.size a hO (cV _ _ _) vQ haa
      simpa using this
   ·split at kb
    ·rename_i AH aoZ
     obtain⟨Jy,rfl⟩:=aoZ
     cases kb
     obtain⟨c',r1,r2,r3,r4⟩:=key (by omega)
     obtain⟨q1,q2,q3,q4,q5,q6⟩:=j6 (c':=c') hB
     have Ch:=Rk hm hO aH (B:=B) (by rw[hμ];rfl)
     refine⟨_,_,C,r1,Ext.refl _ _, ?_,by simp, ?_,fun _ _=>rfl⟩
     ·refine hm.upd hO js (fun _ _=>rfl) (Ext.refl _ _) q1 q2 q3 (by rw[q4];exact Nat.le_refl _) (fun B' _ fB=>q6 B' (fun e=>fB (by rw[hμ,e];rfl)))
       (fun a v hv=>(World.cell?_of_block (q6 _ (Ch a v hv))).trans (hm.prot a v hv)) (fun B' e=>.inl e) ?_ (fun B' e1 a v hv eV=> ?_)
      ·rw[hμ]
       have Xt:(es.take (off+len)++xs++es.drop (off+len+xs.length)).length≤cap:=by
        simp only[List.length_append,List.length_take,List.length_drop];omega
       exact⟨rfl,rfl,h0,Xt,r3.1,c',Qj,q5,by rw[r2];exact ES,r3.2⟩
      ·exact absurd (by rw[hμ] at e1;cases e1;exact eV) (Ch a v hv)
     ·have:=ar.arr (C:=C) (n:=h.length) id g off (len+xs.length) B o cap e.size a hO hμ (by omega) ha
      simpa using this
    ·cases kb
  ·
   have AH:off+len=es.length:=by
    by_cases hf:off+len=es.length
    ·exact hf
    ·rw[if_neg hf] at kb
     split at kb
     ·omega
     ·cases kb
   rw[if_pos AH,if_neg (by omega)] at kb
   cases kb
   have hold:∀y∈es.drop off,y.cells.length=e.size:=fun y hy=>aa.1 y (List.mem_of_mem_drop hy)
   have ays:rM h (.arr id g off len)=some (es.drop off):=by
    simp only[rM,aH]
    rw[if_pos ⟨trivial,by omega⟩,List.take_of_length_le (by simp;omega)]
   obtain⟨vI,o1,o2,o3,o4,o5⟩:=tX (P:=P) hold (BO hm (fun _ _=>rfl) ays hs)
   have Mz:(es.drop off).length=len:=by simp;omega
   rw[Mz] at o1 o2
   obtain⟨z,kY,r1,r2,r3,r4⟩:=kJ (P:=P) (w:=w) (ty:=ty) hT g1 E0 g2 o2 k2 k3 (by omega) h3 h2
   let G:=g+xs.length+(if off=0 then 0 else 1)
   have hG:g<G:=by
    show g<g+xs.length+(if off=0 then 0 else 1)
    have:xs.length≠0:=by omega
    omega
   have hC:=Cx.set_bump (C:=C) (id:=id) (g:=g) (g':=G) (c:=.arr G w.heap.size 0 kY e.size) (by rw[hμ];rfl) rfl hG h.length
   have l6:∀y∈es.drop off++xs,y.cells.length=e.size:=fun y hy=>by
    rcases List.mem_append.1 hy with hh|hh
    ·exact hold y hh
    ·exact h4 y hh
   have PX:=bK hold
   have apq:=bK h4
   have WK:dU C.M e.size (es.drop off++xs) (vI.toArray++news.toArray++Builtin.zeroCells z.cells (kY-(len+xs.length))) 0:=by
    refine⟨l6,fun k hk=> ?_⟩
    have ayP:flat (es.drop off++xs)=flat (es.drop off)++flat xs:=by simp[flat]
    rw[ayP] at hk ⊢
    rw[List.length_append,PX,apq,Mz] at hk
    rw[Nat.zero_add,Array.getD_eq_getD_getElem?,List.getD_eq_getElem?_getD,Array.append_assoc]
    by_cases c1:k<vI.length
    ·rw[Array.getElem?_append_left (by simpa using c1),List.getElem?_append_left (by rw[PX,Mz,←o1];exact c1)]
     have h5:=o4 k (by rw[PX,Mz,←o1];exact c1)
     refine⟨by simpa [List.getD_eq_getElem?_getD] using h5, ?_⟩
     have:=o5 (vI[k]) (List.getElem_mem c1)
     simpa [c1] using this
    ·have c2:k-vI.length<news.length:=by omega
     rw[Array.getElem?_append_right (by simp;omega),Array.getElem?_append_left (by simpa using c2),List.getElem?_append_right (by rw[PX,Mz,←o1];omega),PX,Mz,←o1]
     have h5:=k4 (k-vI.length) (by rw[apq,←k1];exact c2)
     refine⟨by simpa [List.getD_eq_getElem?_getD] using h5, ?_⟩
     have:=k5 (news[k-vI.length]) (List.getElem_mem c2)
     simpa [c2] using this
   have p8:=jj w (.cells (vI.toArray++news.toArray++Builtin.zeroCells z.cells (kY-(len+xs.length))) et)
   refine⟨_,_,C.set id (.arr G w.heap.size 0 kY e.size),r4,hC, ?_,by simp, ?_,fun j hj=>a_ hj⟩
   ·refine hm.upd (C':=C.set id (.arr G w.heap.size 0 kY e.size)) hO (Bm (by intro _ _ e;cases e)) (fun j hj=>a_ hj) hC p8.os p8.tape p8.output p8.size (fun B' Rc _=>p8.block B' Rc) (fun a v hv=>(p8.cell (kg (hm.prot a v hv))).trans (hm.prot a v hv))
     (fun B' e'=>by rw[cV] at e';cases e';exact .inr ⟨Nat.le_refl _,by simp⟩) ?_ (fun B' e' a v hv eV=> ?_)
    ·rw[cV]
     refine⟨rfl,rfl,h0,by simp;omega,WK.1,_,et,heap_alloc_new w.drew _, ?_,WK.2⟩
     simp only[Array.size_append,List.size_toArray,size_zeroCells,k1,o1,r3]
     rw[←Nat.add_mul,←Nat.add_mul,Nat.zero_add];exact Nat.mul_le_mul_right _ (by omega)
    ·rw[cV] at e';cases e'
     have:=kg (hm.prot a v hv)
     omega
   ·have:=ar.arr (C:=C.set id (.arr G w.heap.size 0 kY e.size)) (n:=h.length) id G 0 (len+xs.length) w.heap.size 0 kY e.size 0 hO (cV _ _ _) (by omega) (.inl (by omega))
    simpa using this
 ·
  simp only[List.length_nil,Nat.add_zero,if_true,true_and,List.drop_nil,List.nil_append,Nat.zero_add] at kb h2 h3
  by_cases lZ:xs.length=0
  ·rw[if_pos lZ] at kb
   cases kb
   have M9:xs=[]:=List.eq_nil_of_length_eq_zero lZ
   subst M9
   refine⟨.slice none 0 0,w,C, ?_,Ext.refl _ _,hm,rfl,.arrN _ _ hO hμ,fun _ _=>rfl⟩
   have MZ:=k2 w rfl
   have Nl:news=[]:=List.eq_nil_of_length_eq_zero (by simpa using k1)
   subst Nl
   simp only[List.length_nil] at MZ k3
   simp[Builtin.append_,run_underlying g1,run_underlying E0,aoR,k3,MZ]
  ·rw[if_neg lZ] at kb
   cases kb
   obtain⟨z,kY,r1,r2,r3,r4⟩:=kJ (P:=P) (w:=w) (ty:=ty) (vI:=[]) (base:=none) (kI:=0) (vG:=0) hT g1 E0 g2 (fun w' _=>rfl) k2 k3 (by omega) (by omega) (by rw[Nat.zero_add];exact h2)
   rw[Nat.zero_add] at r1 r4
   have zF:=bK h4
   have aa:dU C.M e.size xs (([]:List Value).toArray++news.toArray++Builtin.zeroCells z.cells (kY-xs.length)) 0:=by
    refine⟨h4,fun k hk=> ?_⟩
    have bT:k<news.length:=by rw[k1,←zF];exact hk
    have e1:(([]:List Value).toArray++news.toArray++Builtin.zeroCells z.cells (kY-xs.length)).getD (0+k) Go.undef=news.getD k Go.undef:=by
     rw[Nat.zero_add,Array.getD_eq_getD_getElem?,List.getD_eq_getElem?_getD,Array.append_assoc,Array.getElem?_append_right (by simp),Array.getElem?_append_left (by simpa using bT)]
     simp
    rw[e1]
    exact⟨k4 k hk,k5 _ (by rw[List.getD_eq_getElem?_getD,List.getElem?_eq_getElem bT];exact List.getElem_mem _)⟩
   have p8:=jj w (.cells (([]:List Value).toArray++news.toArray++Builtin.zeroCells z.cells (kY-xs.length)) et)
   have hC:=Cx.set_bump (C:=C) (id:=id) (g:=g) (g':=g+xs.length) (c:=.arr (g+xs.length) w.heap.size 0 kY e.size) (by rw[hμ];rfl) rfl (by omega) h.length
   refine⟨_,_,C.set id (.arr (g+xs.length) w.heap.size 0 kY e.size),r4,hC, ?_,by simp, ?_,fun j hj=>a_ hj⟩
   ·refine hm.upd (C':=C.set id (.arr (g+xs.length) w.heap.size 0 kY e.size)) hO (Bm (by intro _ _ e;cases e)) (fun j hj=>a_ hj) hC p8.os p8.tape p8.output p8.size (fun B' Rc _=>p8.block B' Rc) (fun a v hv=>(p8.cell (kg (hm.prot a v hv))).trans (hm.prot a v hv))
     (fun B' e'=>by rw[cV] at e';cases e';exact .inr ⟨Nat.le_refl _,by simp⟩) ?_ (fun B' e' a v hv eV=> ?_)
    ·rw[cV]
     refine⟨rfl,rfl,h0,r1,h4,_,et,heap_alloc_new w.drew _, ?_,aa.2⟩
     simp only[Array.size_append,List.size_toArray,size_zeroCells,k1,r3,List.length_nil]
     rw[Nat.zero_add,Nat.zero_add,←Nat.add_mul];exact Nat.mul_le_mul_right _ (by omega)
    ·rw[cV] at e';cases e'
     have:=kg (hm.prot a v hv)
     omega
   ·have:=ar.arr (C:=C.set id (.arr (g+xs.length) w.heap.size 0 kY e.size)) (n:=h.length) id (g+xs.length) 0 xs.length w.heap.size 0 kY e.size 0 hO (cV _ _ _) (by omega) (.inl (by omega))
    simpa using this
end
end Go.En
namespace Go.En
open Go.RowKit Go.MapKept
section
variable {P:Program} {T:cX} {F:e_} {w w':World} {C C':Cx} {h rd:Hp} {n:Nat}
theorem map_set(hm:Mem F C h w){id r:Nat}{lA:List (PV×PV)}{en W6:Array MapEntry}{clock rF:Nat}(aH:id<h.length)(hμ:C.μ id=.map r)
  (hb:w.heap[r]? =some (.map en clock))(hn:nP C.M lA W6.toList):Mem F C (h.set id (.map lA)) {w with heap:=w.heap.setIfInBounds r (.map W6 rF)}:=by
 obtain⟨q1,q2⟩:=heap_set (w:=w) (o':=.map W6 rF) hb
 have Ch:∀a v,C.M a=some v→a.block≠r:=fun a v hv e=>by
  obtain⟨g,o,cap,sz,es0,h1,_⟩:=hm.sep id r aH (by rw[hμ];rfl) a v hv e
  rw[hμ] at h1;cases h1
 refine hm.upd (C':=C) aH js (fun _ _=>rfl) (Ext.refl _ _) rfl rfl rfl (by simp) (fun B _ fB=>q2 B (fun e=>fB (by rw[hμ,e];rfl)))
  (fun a v hv=>(World.cell?_of_block (q2 _ (Ch a v hv))).trans (hm.prot a v hv)) (fun B e=>.inl e) ?_ (fun B e a v hv eV=> ?_)
 ·rw[hμ]
  exact⟨W6,rF,q1,by simpa using hn.length,fun k e hk=>hn.get k e (by simpa using hk)⟩
 ·exact absurd (by rw[hμ] at e;cases e;exact eV) (Ch a v hv)
theorem vK(hT:T.Ok P)(hm:Mem F C h w){t id:Nat}{k v:PV}{kd:TypeDesc}{i:TI}{es lA:List (PV×PV)}{mv kv vv:Value}(hd:fT T t=some (kd,i))(ho:h.at id=.map es)
  (h1:dK kd k=true)(h2:da kd es=true)(h3:p5 k v es=some lA)(hx:ar C h.length (.map id) mv)(hk:ar C h.length (.p k) kv)(hv:ar C h.length (.p v) vv):
  ∃w',(Instr.mapUpdate t mv kv vv).run P w=.ok () w'∧Mem F C (h.set id (.map lA)) w':=by
 obtain⟨r,en,clock,rfl,aH,hμ,g4,g5⟩:=sC hm ho hx
 obtain⟨kt,et,g1,g2,g3⟩:=oA hT hd
 have PT:=cn hk
 have JE:=jy h1 PT
 rcases Ed h1 PT (cn hv) 0 g5 h2 h3 with⟨h4,h5⟩|⟨j,e,h4,h5,h6,h7⟩
 ·refine⟨_, ?_,map_set (W6:=en.push ⟨kv,vv,clock⟩) (rF:=clock+1) hm aH hμ g4 (by simpa using h5 clock)⟩
  simp[Instr.mapUpdate,run_underlying g1,MapKept.run_getObj_map g4,run_checkKey g2 JE,run_findKey g2 h4,run_setObj_map _ g4]
 ·have hj:en[j]? =some e:=by simpa using h5
  rw[Nat.zero_add] at h4
  refine⟨_, ?_,map_set (W6:=en.modify j fun e=>{e with key:=kv,val:=vv}) (rF:=clock) hm aH hμ g4 ?_⟩
  ·simp[Instr.mapUpdate,run_underlying g1,MapKept.run_getObj_map g4,run_checkKey g2 JE,run_findKey g2 h4,run_setObj_map _ g4,hj,h6,run_keyThatStays JE]
  ·have:(en.modify j fun e=>{e with key:=kv,val:=vv}).toList=en.toList.set j {e with key:=kv,val:=vv}:=by
    apply List.ext_getElem?
    intro l
    simp only[Array.getElem?_toList,Array.getElem?_modify,List.getElem?_set]
    have Gv:=(Array.getElem?_eq_some_iff.1 hj).1
    by_cases hl:j=l
    ·subst hl
     have:=(Array.getElem?_eq_some_iff.1 hj).2
     simp[Gv,this]
    ·simp[hl]
   rw[this];exact h7
theorem CG(hT:T.Ok P)(hm:Mem F C h w){t id ty:Nat}{k:PV}{kd:TypeDesc}{i:TI}{es lA:List (PV×PV)}{mv kv:Value}(hd:fT T t=some (kd,i))(ho:h.at id=.map es)
  (h1:dK kd k=true)(h2:da kd es=true)(h3:Le k es=some lA)(hx:ar C h.length (.map id) mv)(hk:ar C h.length (.p k) kv)(ts:Array TypeId)(hts:ts[0]? =some t):
  ∃w',(Builtin.delete_ ts ty #[mv,kv]).run P w=.ok (.tuple #[]) w'∧Mem F C (h.set id (.map lA)) w':=by
 obtain⟨r,en,clock,rfl,aH,hμ,g4,g5⟩:=sC hm ho hx
 obtain⟨kt,et,g1,g2,g3⟩:=oA hT hd
 have PT:=cn hk
 have JE:=jy h1 PT
 rcases Ef h1 PT 0 g5 h2 h3 with⟨h4,h5⟩|⟨j,u,h4,h5,h6⟩
 ·refine⟨_, ?_,map_set (W6:=en) (rF:=clock) hm aH hμ g4 h5⟩
  simp[Builtin.delete_,hts,run_underlying g1,MapKept.run_getObj_map g4,run_checkKey g2 JE,run_findKey g2 h4,run_setObj_map _ g4]
 ·rw[Nat.zero_add] at h4
  refine⟨_, ?_,map_set (W6:=en.eraseIdxIfInBounds j) (rF:=clock) hm aH hμ g4 ?_⟩
  ·simp[Builtin.delete_,hts,run_underlying g1,MapKept.run_getObj_map g4,run_checkKey g2 JE,run_findKey g2 h4,run_setObj_map _ g4]
  ·have:(en.eraseIdxIfInBounds j).toList=en.toList.eraseIdx j:=by
    unfold Array.eraseIdxIfInBounds
    rw[dif_pos (by simpa using h5)];simp
   rw[this];exact h6
def Cx.walk(C:Cx)(D m c:Nat):Cx:={C with I:=fun B=>if B=D then some (m,c) else C.I B}
theorem Mem.walkNew(hm:Mem F C h w)(m c:Nat):Mem F (C.walk w.heap.size m c) h (w.alloc (.mapIter (some m) c #[] c))∧Ext h.length C (C.walk w.heap.size m c):=by
 have hg:=hm.grow (dT w (.mapIter (some m) c #[] c))
 have bW:∀B p,C.I B=some p→B<w.heap.size:=fun B p e=>(Array.getElem?_eq_some_iff.1 (hm.kept B _ (.inr ⟨p.1,p.2,e,rfl⟩))).1
 have hx:Ext h.length C (C.walk w.heap.size m c):=⟨fun _ _ e=>e,fun _ _ e=>e,fun B o' e=>by
  have:=bW B o' e
  show(if B=w.heap.size then _ else _)=_
  rw[if_neg (by omega)];exact e,rfl,fun _ _=>.inl rfl⟩
 refine⟨⟨fun id aH=>(hg.objs id aH).mono hx (Nat.le_refl _) (fun _ _=>rfl),hg.prot,hg.src,hg.sep,hg.inj,hg.lt,fun B o' e=> ?_,fun B o' e id aH e'=> ?_,hg.bnd,hg.fr,hg.gl.mono hx.M hx.L⟩,hx⟩
 ·rcases e with e|⟨m',c',e,e2⟩
  case inl=>exact hg.kept B o' (.inl e)
  have e:(if B=w.heap.size then some (m,c) else C.I B)=some (m',c'):=e
  split at e
  ·rename_i hB;cases e;subst hB;subst e2;exact heap_alloc w _
  ·exact hg.kept B o' (.inr ⟨_,_,e,e2⟩)
 ·rcases e with e|⟨m',c',e,e2⟩
  case inl=>exact hg.ksep B o' (.inl e) id aH e'
  have e:(if B=w.heap.size then some (m,c) else C.I B)=some (m',c'):=e
  split at e
  ·rename_i hB
   subst hB
   have:=(hm.lt id _ aH e').1
   omega
  ·exact hg.ksep B o' (.inr ⟨_,_,e,e2⟩) id aH e'
theorem BL(hT:T.Ok P)(hm:Mem F C h w){t id:Nat}{k e:Nat}{mv:Value}(hd:descOf T t=some (.map k e))(ho:h.at id=.map [])(hx:ar C h.length (.map id) mv):
  ∃v w' C',(Instr.range t mv).run P w=.ok v w'∧Ext h.length C C'∧Mem F C' h w'∧ar C' h.length (.it id) v∧∀j,C'.μ j=C.μ j:=by
 obtain⟨r,en,clock,rfl,aH,hμ,g4,g5⟩:=sC hm ho hx
 obtain⟨m1,x1⟩:=hm.walkNew r clock
 refine⟨_,_,_,by simp[Instr.range,run_underlying (bE hT hd),MapKept.run_getObj_map g4],x1,m1,.it id w.heap.size r clock aH hμ ?_,fun _=>rfl⟩
 show(if w.heap.size=w.heap.size then _ else _)=_
 rw[if_pos rfl]
def afb(P:Program)(a:Act)(o:Oper)(F:e_)(C:Cx)(h:Hp)(w:World)(h':Hp)(x:AV)(tm:Tm):Prop:=
 ∃v w' C',((execOp a.eval o).run P w=.ok (.value v) w'∨((execOp a.eval o).run P w=.ok .skip w'∧v=undef))∧Ext h.length C C'∧Mem F C' h' w'∧h'.length=h.length∧ar C' h.length x v∧∀j,dY tm o.op≠some j→C'.μ j=C.μ j
theorem CD{tm:Tm}{args:Array Operand}{p q:AV}(he:gG tm args.toList=[p,q]):∃y z,args= #[y,z]∧uv (aX tm y)=p∧uv (aX tm z)=q:=by
 obtain⟨l⟩:=args
 cases l with
 |nil=>simp[gG] at he
 |cons y l=>
  cases l with
  |nil=>simp[gG] at he
  |cons z l=>
   cases l with
   |nil=>
    simp only[gG,List.map_cons,List.map_nil,List.cons.injEq,and_true] at he
    exact⟨y,z,rfl,he⟩
   |cons _ _=>simp[gG] at he
theorem SO{v:AV}{x:PV}{u:Value}(hx:v.toP=some x)(h1:(AV.p x).one=true)(hr:ar C n v u):ar C n (.p x) u:=by
 cases v with
 |p y=>simp[AV.toP] at hx;subst hx;exact hr
 |agg cs=>
  simp only[AV.toP,Option.map_eq_some_iff] at hx
  obtain⟨ps,_,rfl⟩:=hx
  simp[AV.one] at h1
 |fn f cs=>
  simp only[AV.toP,Option.map_eq_some_iff] at hx
  obtain⟨ps,h5,rfl⟩:=hx
  exact .p _ _ (H9 h5 hr)
 |_=>simp[AV.toP] at hx
theorem sD(hT:T.Ok P)(hm:Mem F C h w){t:Nat}{mp k v:AV}{mv kv vv:Value}{r:Hp×AV}(h1:ix T h t mp k v=some r)(hmr:ar C h.length mp mv)(PT:ar C h.length k kv)(hvr:ar C h.length v vv):
  ∃w',(Instr.mapUpdate t mv kv vv).run P w=.ok () w'∧Mem F C r.1 w'∧r.2=.undef∧r.1.length=h.length:=by
 unfold ix at h1
 split at h1
 ·rename_i id k' v' kd i e3 e4
  split at h1
  ·rename_i es ho
   split at h1
   ·rename_i hc
    obtain⟨c1,c2,c3⟩:=hc
    simp only[Option.map_eq_some_iff] at h1
    obtain⟨lA,h2,rfl⟩:=h1
    obtain⟨w',h3,h4⟩:=vK hT hm e4 ho c1 c2 h2 hmr PT (SO e3 c3 hvr)
    exact⟨w',h3,h4,rfl,by simp⟩
   ·cases h1
  ·cases h1
 ·cases h1
theorem An(hT:T.Ok P)(hm:Mem F C h w){tm:Tm}{a:Act}(ht:∀i,ar C h.length (look tm i) (a.tmps.getD i Go.undef))
  {o:Oper}{r:Hp×AV}(h1:wc T h tm o.op=some r)(hk:gu true tm o.op=true):afb P a o F C h w r.1 r.2 tm:=by
 obtain⟨dst,op,type,pos,after,guard⟩:=o
 cases op<;>simp only[wc] at h1<;>try (cases h1;done)
 case store t x y=>
  obtain⟨jG,jA⟩:=Fk hk
  simp only[Option.map_eq_some_iff] at h1
  obtain⟨h',h2,rfl⟩:=h1
  obtain⟨w',h3,h4,h5⟩:=Bw hT hm h2 (j9 ht jG) (j9 ht jA)
  exact⟨undef,w',C,.inr ⟨by simp[execOp,h3],rfl⟩,Ext.refl _ _,h4,h5,.undef _,fun _ _=>rfl⟩
 case mapUpdate t m k v=>
  have tv:uk true (aX tm m)=true∧uk true (aX tm k)=true∧uk true (aX tm v)=true:=by simpa [gu,ef,Op.operands] using hk
  obtain⟨w',h3,h4,h5,h6⟩:=sD hT hm h1 (j9 ht tv.1) (j9 ht tv.2.1) (j9 ht tv.2.2)
  rw[h5]
  exact⟨undef,w',C,.inr ⟨by simp[execOp,h3],rfl⟩,Ext.refl _ _,h4,h6,.undef _,fun _ _=>rfl⟩
 case insert t m k v=>
  have tv:uk true (aX tm m)=true∧uk true (aX tm k)=true∧uk true (aX tm v)=true:=by simpa [gu,ef,Op.operands] using hk
  obtain⟨w',h3,h4,h5,h6⟩:=sD hT hm h1 (j9 ht tv.1) (j9 ht tv.2.1) (j9 ht tv.2.2)
  rw[h5]
  exact⟨undef,w',C,.inr ⟨by simp[execOp,h3],rfl⟩,Ext.refl _ _,h4,h6,.undef _,fun _ _=>rfl⟩
 case range t x=>
  split at h1
  case h_2=>cases h1
  rename_i id kt et e1 e2
  split at h1
  case h_2=>cases h1
  rename_i ho
  cases h1
  have hx:=j9 (a:=a) ht (show uk true (aX tm x)=true by simpa [gu,ef,Op.operands] using hk)
  rw[e1] at hx
  obtain⟨v,w',C',h2,h3,h4,h5,h6⟩:=BL hT hm e2 ho hx
  exact⟨v,w',C',.inl (by simp[execOp,h2]),h3,h4,rfl,h5,fun j _=>h6 j⟩
 case call c=>
  obtain⟨callee,args,argTypes⟩:=c
  cases callee<;>simp only at h1<;>try (cases h1;done)
  rename_i b
  have tv:ef true tm args.toList=true:=by simpa [gu] using hk
  cases b<;>simp only at h1<;>try (cases h1;done)
  ·
   split at h1
   ·rename_i id g off len x t t' e1 e2
    have ha:∃y z,args= #[y,z]∧uv (aX tm y)=.arr id g off len∧uv (aX tm z)=x:=CD e1
    have hb:argTypes= #[t,t']:=by
     obtain⟨l⟩:=argTypes
     simpa using e2
    obtain⟨y,z,rfl,e3,rfl⟩:=ha
    subst hb
    obtain⟨jG,jA⟩:=Fk (show ef true tm [y,z]=true from tv)
    have hy:=j9 ht jG
    have hz:=j9 ht jA
    rw[e3] at hy
    split at h1
    ·rename_i g' sz sh es e q e' xs ho he ET hp
     split at h1
     ·rename_i hc
      obtain⟨rfl,c1,c2,c3,c4,c5⟩:=hc
      obtain⟨u,w',C',h2,h3,h4,h5,h6,h7⟩:=CR (ty:=type) hT hm ho he ET hp hy hz c1 c2 c3 c4 c5 h1
      exact⟨u,w',C',.inl (by simp[execOp,resolve,invoke,builtin,h2]),h3,h4,h5,h6,fun j hj=>h7 j (fun e=>hj (by subst e;simp[dY,gG,e3]))⟩
     ·cases h1
    ·cases h1
   ·cases h1
  ·
   split at h1
   ·rename_i id k t l e1 e2
    have ha:∃y z,args= #[y,z]∧uv (aX tm y)=.map id∧uv (aX tm z)=.p k:=CD e1
    have hb:argTypes[0]? =some t:=by
     obtain⟨l⟩:=argTypes
     simp only at e2
     subst e2
     rfl
    obtain⟨y,z,rfl,e3,e4⟩:=ha
    obtain⟨jG,jA⟩:=Fk (show ef true tm [y,z]=true from tv)
    have hy:=j9 ht jG
    have hz:=j9 ht jA
    rw[e3] at hy;rw[e4] at hz
    split at h1
    ·rename_i es kd i ho hd
     split at h1
     ·rename_i hc
      simp only[Option.map_eq_some_iff] at h1
      obtain⟨lA,h2,rfl⟩:=h1
      obtain⟨w',h3,h4⟩:=CG (ty:=type) hT hm hd ho hc.1 hc.2 h2 hy hz argTypes hb
      exact⟨.tuple #[],w',C,.inl (by simp[execOp,resolve,invoke,builtin,h3]),Ext.refl _ _,h4,by simp,.tup _ _ rfl (by simp),fun _ _=>rfl⟩
     ·cases h1
    ·cases h1
   ·cases h1
end
end Go.En
namespace Go.En
open Go.RowKit
section
variable {P:Program} {T:cX} {F:e_} {w w':World} {C C':Cx} {h rd:Hp} {n:Nat} {tm lq:Tm}
theorem je{l:List Operand}(hx:∀x∈l,aX tm x=aX lq x):gG tm l=gG lq l:=by
 simp only[gG]
 exact List.map_congr_left fun x hm=>by rw[hx x hm]
theorem AT{g:Bool}{l:List Operand}(hx:∀x∈l,aX tm x=aX lq x):ef g tm l=ef g lq l:=by
 induction l with
 |nil=>rfl
 |cons y l ih=>
  have h1:=hx y (by simp)
  have h2:=ih (fun x hm=>hx x (by simp[hm]))
  simp only[ef,List.all_cons] at h2 ⊢
  rw[h1,h2]
theorem lH{l:List (Nat×Operand)}(hx:∀x∈l.map (·.2),aX tm x=aX lq x):(l.map fun (i,x)=>(i,uv (aX tm x)))=l.map fun (i,x)=>(i,uv (aX lq x)):=
 List.map_congr_left fun p hm=>by
  have:=hx p.2 (List.mem_map_of_mem hm)
  simp[this]
theorem K4{op:Op}(hx:∀x∈op.operands.toList,aX tm x=aX lq x):sr T h tm op=sr T h lq op:=by
 cases op<;>simp only[sr]<;>try rfl
 case move x=>rw[hx x (by simp[Op.operands])]
 case assign x=>rw[hx x (by simp[Op.operands])]
 case pick c a b=>rw[hx c (by simp[Op.operands]),hx a (by simp[Op.operands]),hx b (by simp[Op.operands])]
 case load t x=>rw[hx x (by simp[Op.operands])]
 case nilCheck x=>rw[hx x (by simp[Op.operands])]
 case binOp op t x y yt=>rw[hx x (by simp[Op.operands]),hx y (by simp[Op.operands])]
 case unOp op t x=>rw[hx x (by simp[Op.operands])]
 case convert s d x=>rw[hx x (by simp[Op.operands])]
 case fieldAddr s x f=>rw[hx x (by simp[Op.operands])]
 case field s x f=>rw[hx x (by simp[Op.operands])]
 case indexAddr t x i=>rw[hx x (by simp[Op.operands]),hx i (by simp[Op.operands])]
 case index t x i=>rw[hx x (by simp[Op.operands]),hx i (by simp[Op.operands])]
 case lookup t x i c=>rw[hx x (by simp[Op.operands]),hx i (by simp[Op.operands])]
 case next x b=>cases b<;>simp only<;>try rw[hx x (by simp[Op.operands])]
 case extract x i=>rw[hx x (by simp[Op.operands])]
 case makeFunc fn first abY=>
  cases fn<;>try rfl
  simp only
  rw[je (l:=abY.toList) (fun x hm=>hx x (by simp only[Op.operands,Array.toList_append,List.mem_append];exact .inr hm)),je (l:=first.toList) (fun x hm=>hx x (by simp only[Op.operands,Array.toList_append,List.mem_append];exact .inl hm))]
 case buildSlice t len parts=>
  rw[lH (l:=parts.toList) (fun x hm=>hx x (by simpa [Op.operands] using hm))]
 case build t parts=>
  rw[lH (l:=parts.toList) (fun x hm=>hx x (by simpa [Op.operands] using hm))]
 case slice t x lo hi mx=>
  cases mx<;>try rfl
  simp only
  rw[hx x (by simp[Op.operands])]
  have e1:lo.map (fun x=>uv (aX tm x))=lo.map (fun x=>uv (aX lq x)):=by
   cases lo with
   |none=>rfl
   |some y=>simp only[Option.map_some];rw[hx y (by simp[Op.operands])]
  have e2:hi.map (fun x=>uv (aX tm x))=hi.map (fun x=>uv (aX lq x)):=by
   cases hi with
   |none=>rfl
   |some y=>simp only[Option.map_some];rw[hx y (by simp[Op.operands])]
  rw[e1,e2]
 case call c=>
  have e:gG tm c.args.toList=gG lq c.args.toList:=je fun x hm=>hx x (by simp only[Op.operands,Call.operands,Array.toList_append,List.mem_append];exact .inr hm)
  rw[e]
theorem mA{g:Bool}{op:Op}(hx:∀x∈op.operands.toList,aX tm x=aX lq x):gu g tm op=gu g lq op:=by
 have key:=AT (g:=g) hx
 cases op<;>try exact key
 case pick c a b=>simp only[gu];rw[hx c (by simp[Op.operands])]
 case call c=>
  refine AT (fun x hm=>hx x ?_)
  obtain⟨callee,args,ats⟩:=c
  cases callee<;>simp[Op.operands,Call.operands] at hm ⊢<;>first|exact hm|exact .inr hm
theorem K6{own:Nat}{op:Op}(hx:∀x∈op.operands.toList,aX tm x=aX lq x):pY T own h tm op=pY T own h lq op:=by
 cases op<;>simp only[pY]<;>try rfl
 case box t x=>simp only[hx x (by simp[Op.operands])]
 case makeMap t res=>cases res<;>rfl
 case build t parts=>
  rw[lH (l:=parts.toList) (fun x hm=>hx x (by simpa [Op.operands] using hm))]
 case buildSlice t len parts=>
  rw[lH (l:=parts.toList) (fun x hm=>hx x (by simpa [Op.operands] using hm))]
 case makeSlice t l c=>rw[hx l (by simp[Op.operands]),hx c (by simp[Op.operands])]
 case call c=>
  obtain⟨callee,args,ats⟩:=c
  cases callee<;>try rfl
  rename_i b
  cases b<;>try rfl
  simp only
  split
  ·rename_i s x t t' e1 e2
   have hm:∀y∈[s,x],aX tm y=aX lq y:=fun y hy=>hx y (by
    simp only[Op.operands,Call.operands,Array.toList_append,List.mem_append]
    exact .inr (by rw[e1];exact hy))
   rw[hm s (by simp),hm x (by simp)]
  ·rfl
theorem qu{x:Operand}{as:List AV}(hx:aX tm x=aX lq x):dH tm x as=dH lq x as:=by unfold dH;rw[hx]
theorem Ej(t:Tm)(d i:Nat)(v:AV):look (put t d v) i=if d=i then v else look t i:=by
 induction t with
 |nil=>simp[put,look]
 |cons p t ih=>
  obtain⟨k,u⟩:=p
  simp only[put]
  by_cases h1:k=d
  ·subst h1;simp only[if_true,look]
   by_cases h2:k=i<;>simp[h2]
  ·simp only[h1,if_false,look]
   by_cases h2:k=i
   ·subst h2;simp[Ne.symm h1]
   ·simp only[h2,if_false,ih]
theorem ub(t:Tm)(d:Option Nat)(i:Nat)(v:AV):look (bJ t d v) i=if d=some i then v else look t i:=by
 cases d with
 |none=>simp[bJ]
 |some d=>simp[bJ,Ej]
theorem DW(a:Act)(d:Option Nat)(v:Value)(i:Nat)(hd:∀j,d=some j→j<a.tmps.size):(a.put d v).tmps.getD i Go.undef=if d=some i then v else a.tmps.getD i Go.undef:=by
 cases d with
 |none=>simp[Act.put]
 |some d=>
  have:=hd d rfl
  simp only[Act.put,Array.getD_eq_getD_getElem?,Array.getElem?_setIfInBounds,Option.some.injEq]
  by_cases h1:d=i
  ·subst h1;simp[this]
  ·simp[h1]
theorem DV(a:Act)(d:Option Nat)(v:Value):(a.put d v).tmps.size=a.tmps.size:=by cases d<;>simp[Act.put]
theorem put_defers(a:Act)(d:Option Nat)(v:Value):(a.put d v).defers=a.defers:=by cases d<;>rfl
def FW(r:Option Nat):Fence:={Fence.wide with round:=r}
theorem Bi(r:Option Nat)(f:FuncId):(FW r).fn f:=trivial
theorem rH{r:Option Nat}{n:Nat}{f:FuncId}{args:Array Value}{R:Ending→World→Prop}:CallsIn (FW r) n P f args w R↔Calls P f args w R:=callsIn_wide (n:=n)
def tY(r:Option Nat)(P:Program)(ops:Array Oper)(Q:Exit→Act→World→Prop)(K:Act→World→Prop)(o:Oper)(a:Act)(w:World):Prop:=
 if Region.wanted o (yielded ops a.tmps) then o.wpIn (FW r) 0 P a w K Q else(∀f,o.about P w a.eval=some f→(FW r).fn f)∧K (a.put o.dst Go.undef) w
def pv(r:Option Nat)(P:Program)(ops:Array Oper)(o:Oper)(a:Act)(w:World)(R:Value→World→Prop):Prop:=
 ∀(Q:Exit→Act→World→Prop) (K:Act→World→Prop),(∀u w',R u w'→K (a.put o.dst u) w')→tY r P ops Q K o a w
section
variable {ops:Array Oper} {o:Oper} {a:Act} {R R':Value→World→Prop} {r:Option Nat}
theorem pv.mono(hd:pv r P ops o a w R)(hr:∀u w',R u w'→R' u w'):pv r P ops o a w R':=fun Q K hk=>hd Q K fun u w' hu=>hk u w' (hr u w' hu)
def su(o:Oper):Prop:=∀c,o.op≠ .defer c
theorem lD(hn:su o)(ρ:Operand→Value):o.semAt r ρ=execOp ρ o:=by
 exact Oper.semAt_eq r ρ o hn
theorem kW{v:Value}(hn:su o)(hw:Region.wanted o (yielded ops a.tmps)=true)(he:(execOp a.eval o).run P w=.ok (.value v) w')(hr:R v w'):pv r P ops o a w R:=by
 intro Q K hk
 unfold tY
 rw[if_pos hw]
 refine⟨fun f _=>Bi r f, ?_⟩
 show o.uponIn (FW r) 0 P a K Q ((o.semAt r a.eval).run P w)
 rw[lD hn,he]
 exact hk v w' hr
theorem AU(hn:su o)(hw:Region.wanted o (yielded ops a.tmps)=true)(he:(execOp a.eval o).run P w=.ok .skip w')(hr:R Go.undef w'):pv r P ops o a w R:=by
 intro Q K hk
 unfold tY
 rw[if_pos hw]
 refine⟨fun f _=>Bi r f, ?_⟩
 show o.uponIn (FW r) 0 P a K Q ((o.semAt r a.eval).run P w)
 rw[lD hn,he]
 exact hk _ w' hr
theorem fM(hw:Region.wanted o (yielded ops a.tmps)=false)(hr:R Go.undef w):pv r P ops o a w R:=by
 intro Q K hk
 unfold tY
 rw[hw]
 simp only[Bool.false_eq_true,if_false]
 exact⟨fun f _=>Bi r f,hk _ w hr⟩
theorem jg{f:FuncId}{args:Array Value}(hn:su o)(hw:Region.wanted o (yielded ops a.tmps)=true)(he:(execOp a.eval o).run P w=.ok (.enter f args) w')
  (hc:Calls P f args w' fun| .returned v,NR=>R v NR|_,_=>False):pv r P ops o a w R:=by
 intro Q K hk
 unfold tY
 rw[if_pos hw]
 refine⟨fun f _=>Bi r f, ?_⟩
 show o.uponIn (FW r) 0 P a K Q ((o.semAt r a.eval).run P w)
 rw[lD hn,he]
 rw[Oper.uponIn_enter]
 refine⟨(fun h=>by cases h),rH.2 (hc.mono fun e NR h1=> ?_)⟩
 cases e with
 |returned v=>exact hk v NR h1
 |panicked _=>exact h1.elim
 |outgrown=>exact h1.elim
theorem Ik{l f:Nat}{tmps:Array Value}{assign body:Code}(hn:su o)(hw:Region.wanted o (yielded ops a.tmps)=true)(he:(execOp a.eval o).run P w=.ok (.round l f tmps assign body) w')
  (hc:RoundIn Fence.wide 0 P l f tmps assign body w' fun| .returned v,NR=>R v NR|_,_=>False):pv r P ops o a w R:=by
 intro Q K hk
 unfold tY
 rw[if_pos hw]
 refine⟨fun f _=>Bi r f, ?_⟩
 show o.uponIn (FW r) 0 P a K Q ((o.semAt r a.eval).run P w)
 rw[lD hn,he]
 rw[Oper.uponIn_round]
 refine⟨(fun h=>by cases h), ?_⟩
 have h2:RoundIn Fence.wide 0 P l f tmps assign body w' fun
   | .returned v,NR=>K (a.put o.dst v) NR
   | .panicked chain,NR=>Q (.panic chain) a NR
   | .outgrown,_=>LetsOut Q:=hc.mono fun e NR h1=>by
  cases e with
  |returned v=>exact hk v NR h1
  |panicked _=>exact h1.elim
  |outgrown=>exact h1.elim
 exact h2
theorem sQ{l:List Oper}{g:Option Bool}(hg:guardOf l tm o.guard=some g)(hl:ops.toList=l)(ht:∀i∈uz l o,ar C n (look tm i) (a.tmps.getD i Go.undef)):
  Region.wanted o (yielded ops a.tmps)=g.getD true:=by
 unfold guardOf at hg
 unfold Region.wanted
 split at hg
 ·rename_i e
  cases hg
  simp[e]
 ·rename_i j want e
  simp only[e]
  cases hd:(l[j]?).bind (·.dst) with
  |none=>rw[hd] at hg;cases hg
  |some d=>
   rw[hd] at hg
   simp only at hg
   have h1:=ht d (by simp[uz,e,hd])
   have Uq:(ops[j]?).bind (·.dst)=some d:=by rw[←hd,←hl];simp
   split at hg
   ·rename_i b e2
    cases hg
    rw[e2] at h1
    have h2:=fN h1
    have h3:a.tmps[d]? =some (.bool b):=by
     rw[Array.getD_eq_getD_getElem?] at h2
     cases h4:a.tmps[d]? with
     |none=>rw[h4] at h2;simp[Go.undef] at h2
     |some v=>rw[h4] at h2;simpa using h2
    unfold yielded
    rw[Uq]
    simp only[Option.bind_some,h3]
    cases b<;>cases want<;>rfl
   ·rename_i c b e2
    cases hg
    rw[e2] at h1
    cases c with
    |true=>
     cases h1 with
     |gdT _ _ h1=>
      have h2:=fN h1
      have h3:a.tmps[d]? =some (.bool b):=by
       rw[Array.getD_eq_getD_getElem?] at h2
       cases h4:a.tmps[d]? with
       |none=>rw[h4] at h2;simp[Go.undef] at h2
       |some v=>rw[h4] at h2;simpa using h2
      unfold yielded
      rw[Uq]
      simp only[Option.bind_some,h3]
      cases b<;>cases want<;>rfl
    |false=>
     have h2:a.tmps.getD d Go.undef=Go.undef:=by
      generalize a.tmps.getD d Go.undef=v at h1
      cases h1;rfl
     have h3:yielded ops a.tmps j=none:=by
      unfold yielded
      rw[Uq]
      simp only[Option.bind_some]
      rw[Array.getD_eq_getD_getElem?] at h2
      cases h4:a.tmps[d]? with
      |none=>rfl
      |some v=>
       rw[h4] at h2
       simp only[Option.getD_some] at h2
       rw[h2]
       rfl
     rw[h3]
     simp
   ·cases hg
end
end
end Go.En
namespace Go.En
open Go.RowKit
section
variable {P:Program} {T:cX} {F:e_} {w w':World} {C C':Cx} {h rd:Hp} {n:Nat} {tm lq:Tm}
theorem qe(ids:List Nat):∀(h:Hp) (i k:Nat),(fh ids i h)[k]? =(h[k]?).map fun o=>if ids.contains (i+k)=true then As o else o
 |[],i,k=>by simp[fh]
 |o::r,i,k=>by
  cases k with
  |zero=>simp[fh]
  |succ k=>
   simp only[fh,List.getElem?_cons_succ,qe ids r (i+1) k]
   rw[show i+1+k=i+(k+1) from by omega]
theorem mq(ids:List Nat):∀(h:Hp) (i:Nat),(fh ids i h).length=h.length
 |[],i=>rfl
 |o::r,i=>by simp[fh,mq ids r (i+1)]
theorem aY(ids:List Nat):(share h ids).length=h.length:=by
 unfold share
 split
 ·rfl
 ·exact mq _ _ _
theorem rX(ids:List Nat)(id:Nat):(share h ids).at id=if id∈ids then As (h.at id) else h.at id:=by
 unfold share
 split
 ·simp
 ·unfold Hp.at
  rw[qe]
  cases h[id]? with
  |none=>simp[As]
  |some o=>simp
theorem Ko:share h []=h:=rfl
theorem Ar{c:Cn}{o:Obj}(hr:kn C n w c o):kn C n w c (As o):=by
 cases o with
 |arr g sz sh es=>cases c<;>first|exact hr|exact hr.elim
 |_=>exact hr
def Cx.withM(C:Cx)(M:Addr→Option Value):Cx:={C with M:=M}
def Jb(C:Cx)(h:Hp)(ids:List Nat)(a:Addr):Prop:=
 ∃id g B o cap sz sh es,id∈ids∧id<h.length∧C.μ id=.arr g B o cap sz∧h.at id=.arr g sz sh es∧a.block=B∧a.off<o+es.length*sz
open Classical in
noncomputable def shown(C:Cx)(h:Hp)(ids:List Nat)(w:World)(a:Addr):Option Value:=
 match C.M a with
 |some v=>some v
 |none=>if Jb C h ids a then w.cell? a else none
theorem z_{ids:List Nat}{a:Addr}{v:Value}(e:C.M a=some v):shown C h ids w a=some v:=by simp[shown,e]
theorem pB{ids:List Nat}{a:Addr}{v:Value}(e:shown C h ids w a=some v):C.M a=some v∨(Jb C h ids a∧w.cell? a=some v):=by
 unfold shown at e
 split at e
 ·rename_i u hu;cases e;exact .inl hu
 ·split at e
  ·exact .inr ⟨by assumption,e⟩
  ·cases e
theorem fQ(ids:List Nat)(n:Nat):Ext n C (C.withM (shown C h ids w)):=⟨fun _ _ e=>z_ e,fun _ _ e=>e,fun _ _ e=>e,rfl,fun _ _=>.inl rfl⟩
theorem GW(hm:Mem F C h w){ids:List Nat}{a:Addr}{v:Value}(e:shown C h ids w a=some v):w.cell? a=some v:=by
 rcases pB e with e|⟨_,e⟩
 ·exact hm.prot a v e
 ·exact e
theorem Mem.share(hm:Mem F C h w)(ids:List Nat):Mem F (C.withM (shown C h ids w)) (share h ids) w:=by
 have hx:=fQ (C:=C) (h:=h) (w:=w) ids h.length
 refine⟨fun id aH=> ?_,fun a v e=>GW hm e,fun a v e=> ?_,fun id B aH e a v hv eV=> ?_,fun i j B hi hj=> ?_,fun id B aH e=> ?_,hm.kept,fun B o e id aH=> ?_,fun id r b aH=> ?_,hm.fr,hm.gl.mono hx.M hx.L⟩
 ·rw[aY] at aH ⊢
  rw[rX]
  have h1:=(hm.objs id aH).mono hx (Nat.le_refl _) (fun _ _=>rfl)
  split
  ·exact Ar h1
  ·exact h1
 ·rcases pB e with e|⟨⟨id,g,B,o,cap,sz,sh,es,h1,h2,h3,h4,h5,h6⟩,_⟩
  ·exact hm.src a v e
  ·have:=(hm.lt id B h2 (by rw[h3];rfl)).2
   rw[h5]
   rcases this with h7|h7
   ·exact .inr (.inl h7)
   ·exact .inl h7
 ·rw[aY] at aH
  rw[rX]
  rcases pB hv with hv|⟨⟨Cc,g,B',o,cap,sz,sh,es,h1,h2,h3,h4,h5,h6⟩,_⟩
  ·obtain⟨g,o,cap,sz,es,h1,h2,h3⟩:=hm.sep id B aH e a v hv eV
   refine⟨g,o,cap,sz,es,h1, ?_,h3⟩
   rw[h2]
   split<;>rfl
  ·have:Cc=id:=hm.inj Cc id B h2 aH (by rw[h3,←h5,eV];rfl) e
   subst this
   rw[eV] at h5;subst h5
   exact⟨g,o,cap,sz,es,h3,by rw[if_pos h1,h4];rfl,h6⟩
 ·rw[aY] at hi hj
  exact hm.inj i j B hi hj
 ·rw[aY] at aH
  exact hm.lt id B aH e
 ·rw[aY] at aH
  exact hm.ksep B o e id aH
 ·rw[aY] at aH
  exact hm.bnd id r b aH
theorem Mem.mark(hm:Mem F C h w)(ids:List Nat):Mem F C (En.share h ids) w:=by
 refine⟨fun id aH=> ?_,hm.prot,hm.src,fun id B aH e a v hv eV=> ?_,fun i j B hi hj=> ?_,fun id B aH e=> ?_,hm.kept,fun B o e id aH=> ?_,fun id r b aH=> ?_,hm.fr,hm.gl⟩
 ·rw[aY] at aH ⊢
  rw[rX]
  split
  ·exact Ar (hm.objs id aH)
  ·exact hm.objs id aH
 ·rw[aY] at aH
  rw[rX]
  obtain⟨g,o,cap,sz,es,h1,h2,h3⟩:=hm.sep id B aH e a v hv eV
  refine⟨g,o,cap,sz,es,h1, ?_,h3⟩
  rw[h2]
  split<;>rfl
 ·rw[aY] at hi hj
  exact hm.inj i j B hi hj
 ·rw[aY] at aH
  exact hm.lt id B aH e
 ·rw[aY] at aH
  exact hm.ksep B o e id aH
 ·rw[aY] at aH
  exact hm.bnd id r b aH
theorem Fa{es:List PV}{sz off len:Nat}(hu:∀x∈es,x.cells.length=sz){k:Nat}(hk:k<(flat ((es.drop off).take len)).length)(hle:off+len≤es.length):
  off*sz+k<(flat es).length∧(flat ((es.drop off).take len)).getD k .nils=(flat es).getD (off*sz+k) .nils:=by
 have nW:∀y∈(es.drop off).take len,y.cells.length=sz:=fun y hy=>hu y (List.mem_of_mem_drop (List.mem_of_mem_take hy))
 refine sT (Q:=fun x k=>off*sz+k<(flat es).length∧x=(flat es).getD (off*sz+k) .nils) nW (fun i hi j hj=> ?_) k hk
 have Cj:i<len:=by simp at hi;omega
 have e:off*sz+(i*sz+j)=(off+i)*sz+j:=by rw[Nat.add_mul];omega
 rw[e]
 have bW:=uo (m:=es.length) (i:=off+i) (sz:=sz) (j:=j) (by omega) hj
 refine⟨by rw[bK hu];exact bW, ?_⟩
 rw[iC hu (by omega) hj]
 congr 2
 simp[List.getD_eq_getElem?_getD,Cj,List.getElem?_drop]
theorem tM(hm:Mem F C h w)(jM:∀id,rd.at id≠ .dead→h.at id=rd.at id){ids:List Nat}{x:AV}{v:Value}(hr:ar C h.length x v)(hi:∀id g off len,x=.arr id g off len→id∈ids):
  ar (C.withM (shown C h ids w)) h.length (lC rd x) v:=by
 have hx:=fQ (C:=C) (h:=h) (w:=w) ids h.length
 unfold lC
 split
 ·rename_i id g off len
  split
  ·rename_i l hp
   have ny:=hi _ _ _ _ rfl
   unfold rM at hp
   simp only at hp
   split at hp
   ·rename_i g' sz sh es ho
    split at hp
    ·rename_i hc
     obtain⟨rfl,hle⟩:=hc
     cases hp
     have lM:h.at id=.arr g sz sh es:=by rw[jM id (by rw[ho];simp),ho]
     have hlen:((es.drop off).take len).length=len:=by simp;omega
     rcases yY hm lM rfl hr with⟨B,o,cap,a,hO,hμ,EV,ha,rfl,_,WR,c,Qj,hB,ES,aa⟩|⟨hO,hμ,rfl,rfl,rfl,rfl⟩
     ·refine .p _ _ ?_
      have hul:∀x∈(es.drop off).take len,x.cells.length=sz:=fun y hy=>aa.1 y (List.mem_of_mem_drop (List.mem_of_mem_take hy))
      have:=bu.sl (M:=shown C h ids w) ((es.drop off).take len) B a (cap-off) sz (fun k=>c.getD (a+k) Go.undef) (by rw[hlen];omega) hul
      rw[hlen] at this
      have Cf:∀k,k<(flat ((es.drop off).take len)).length→a=o+off*sz:=fun k hk=>by
       rcases ha with ha|ha
       ·exact ha
       ·rw[bK hul,hlen] at hk
        have:len=0:=by omega
        subst this;simp at hk
      have aCE:es.length*sz≤cap*sz:=Nat.mul_le_mul_right _ WR
      refine this (fun k hk=> ?_) (fun k hk=> ?_)
      ·obtain⟨h1,h2⟩:=Fa (sz:=sz) aa.1 hk hle
       have h3:=aa.2 _ h1
       have e:=Cf k hk
       subst e
       rw[show o+off*sz+k=o+(off*sz+k) from by omega]
       refine⟨?_,h3.2⟩
       rw[bK aa.1] at h1
       have oQ:w.cell? ⟨B,o+(off*sz+k),none⟩=some (c.getD (o+(off*sz+k)) Go.undef):=by
        rw[cH hB];exact getD_some (by omega)
       unfold shown
       split
       ·rename_i u hu
        have:=hm.prot _ _ hu
        rw[oQ] at this;exact this.symm
       ·rw[if_pos ⟨id,g,B,o,cap,sz,sh,es,ny,hO,hμ,lM,rfl,by show o+(off*sz+k)<_;omega⟩]
        exact oQ
      ·obtain⟨h1,h2⟩:=Fa (sz:=sz) aa.1 hk hle
       have h3:=aa.2 _ h1
       have e:=Cf k hk
       subst e
       rw[h2,show o+off*sz+k=o+(off*sz+k) from by omega]
       exact h3.1.mono (fun _ _ e=>z_ e)
     ·exact .p _ _ .sl0
    ·cases hp
   ·cases hp
  ·exact .undef _
 ·exact hr.mono hx (Nat.le_refl _)
theorem Oi(hm:Mem F C h w)(jM:∀id,rd.at id≠ .dead→h.at id=rd.at id){ids:List Nat}{x:AV}{v:Value}(hr:ar C h.length x v)(hi:∀id∈iJ x,id∈ids):
  ar (C.withM (shown C h ids w)) h.length (snap rd x) v:=by
 unfold snap
 split
 ·rename_i cs
  cases hr with
  |agg _ vs h1 h2=>
   refine .agg _ _ (by simpa using h1) (fun k hk=> ?_)
   have bT:k<cs.length:=by simpa using hk
   have h3:=tM hm jM (ids:=ids) (h2 k bT) (fun id g off len e=>hi id (by
    simp only[iJ,List.mem_flatMap]
    refine⟨cs.getD k .undef, ?_,by rw[e];simp⟩
    rw[List.getD_eq_getElem?_getD,List.getElem?_eq_getElem bT]
    exact List.getElem_mem _))
   simpa [List.getD_eq_getElem?_getD,bT] using h3
 ·refine tM hm jM hr (fun id g off len e=>hi id ?_)
  subst e
  simp[iJ]
end
end Go.En
namespace Go.En
open Go.RowKit
def j8(C:Cx)(h:Hp)(B:Nat):Prop:=∃id,id<h.length∧(C.μ id).blk=some B
def sw(w:World)(M:Addr→Option Value)(a:Addr):Option Value:=if w.heap.size≤a.block then M a else none
structure dq(L:ct)(fresh:Nat→Bool)(P:Program)(f:Nat)(as:List AV)(h:Hp)(r:AV×Hp):Prop where
 fn:∃fn,P.funcs[f]? =some fn∧fn.body.isNone=false∧(fn.name== "runtime.NumGoroutine")=false
 len:h.length≤r.2.length
 calls:∀(w:World) (C:Cx) (vs:Array Value),C.L=L→Mem ⟨w,j8 C h,C.M⟩ C h w→vs.size=as.length→(∀k,k<as.length→ar C h.length (as.getD k .undef) (vs.getD k Go.undef))→
  Calls P f vs w fun
   | .returned u,w'=>∃C',Ext h.length C C'∧C'.K=C.K∧Mem ⟨w,j8 C h,C.M⟩ C' r.2 w'∧ar C' r.2.length r.1 u∧(fresh f=true→j8 C h=(fun _=>False)→ar (C'.withM (sw w C'.M)) r.2.length r.1 u)
   |_,_=>False
section
variable {P:Program} {T:cX} {F:e_} {w w':World} {C C':Cx} {h rd:Hp} {n:Nat} {tm lq:Tm}
theorem z0:∀{cs:List AV},(cZ cs).isSome=true→∀x∈cs,∃p,x=.p p
 |[],_,x,hx=>by cases hx
 | .p y::cs,h,x,hx=>by
  simp only[cZ,Option.isSome_map] at h
  cases hx with
  |head=>exact⟨y,rfl⟩
  |tail _ hx=>exact z0 h x hx
 | .agg _::_,h,_,_=>by simp[cZ] at h
 | .ref _ _::_,h,_,_=>by simp[cZ] at h
 | .arr _ _ _ _::_,h,_,_=>by simp[cZ] at h
 | .elt _ _ _ _::_,h,_,_=>by simp[cZ] at h
 | .fn _ _::_,h,_,_=>by simp[cZ] at h
 | .map _::_,h,_,_=>by simp[cZ] at h
 | .it _::_,h,_,_=>by simp[cZ] at h
 | .yl _::_,h,_,_=>by simp[cZ] at h
 | .tup _::_,h,_,_=>by simp[cZ] at h
 | .gd _ _::_,h,_,_=>by simp[cZ] at h
 | .undef::_,h,_,_=>by simp[cZ] at h
theorem OW{C C':Cx}(hM:C'.M=C.M){n n':Nat}{b:AV}{v:Value}(hp:∀x∈b.cells,∃p,x=.p p)(hr:ar C n b v):ar C' n' b v:=by
 cases b with
 |p x=>exact .p _ _ (by rw[hM];exact cn hr)
 |agg cs=>
  cases hr with
  |agg _ vs h1 h2=>
   refine .agg _ _ h1 (fun k hk=> ?_)
   have h3:=h2 k hk
   obtain⟨p,hp⟩:=hp (cs.getD k .undef) (by
    rw[List.getD_eq_getElem?_getD,List.getElem?_eq_getElem hk];exact List.getElem_mem _)
   rw[hp] at h3 ⊢
   exact .p _ _ (by rw[hM];exact cn h3)
 |_=>obtain⟨p,hp⟩:=hp _ (by simp[AV.cells];rfl);cases hp
theorem zV{C C':Cx}(hM:∀a v,C.M a=some v→C'.M a=some v){n':Nat}{x:AV}{v:Value}(hr:ar C 0 x v):ar C' n' x v:=by
 induction hr with
 |p x v h=>exact .p _ _ (h.mono hM)
 |agg cs vs h1 _ ih=>exact .agg cs vs h1 ih
 |ref _ _ _ h1=>omega
 |arr _ _ _ _ _ _ _ _ _ h1=>omega
 |arrN _ _ h1=>omega
 |arrS _ _ _ _ _ _ _ h1=>omega
 |elt _ _ _ _ _ _ _ _ h1=>omega
 |eltS _ _ _ _ _ _ _ h1=>omega
 |fn f cs vs h1 _ ih=>exact .fn f cs vs h1 ih
 |map _ _ h1=>omega
 |it _ _ _ _ h1=>omega
 |yl _ _ _ h1=>omega
 |glob g=>exact .glob g
 |tup vs xs h1 _ ih=>exact .tup vs xs h1 ih
 |gdT v x _ ih=>exact .gdT v x ih
 |gdF v=>exact .gdF v
 |undef v=>exact .undef v
theorem lE{C C':Cx}{n n':Nat}{x:AV}{v:Value}(hs:cR x=true)(hr:ar C n x v):ar C' n' x v:=by
 unfold cR at hs
 split at hs
 ·rw[c9 hr];exact kQ _ _
 ·rw[fN hr];exact i9 _
 ·rw[j0 hr];exact .p _ _ (.str _)
 ·cases cn hr;exact .p _ _ .nils
 ·cases hs
theorem G2{C C':Cx}{n n':Nat}{x:AV}{v:Value}(hs:scalar x=true)(hr:ar C n x v):ar C' n' x v:=by
 have agg:∀(cs:List AV) (v:Value),cs.all cR=true→ar C n (.agg cs) v→ar C' n' (.agg cs) v:=fun cs v hs hr=>by
  cases hr with
  |agg _ vs h1 h2=>
   refine .agg _ _ h1 (fun k hk=>lE ?_ (h2 k hk))
   simp only[List.all_eq_true] at hs
   refine hs _ ?_
   rw[List.getD_eq_getElem?_getD,List.getElem?_eq_getElem hk];exact List.getElem_mem _
 unfold scalar at hs
 split at hs
 ·exact agg _ _ hs hr
 ·rename_i vs
  cases hr with
  |tup _ xs h1 h2=>
   refine .tup _ _ h1 (fun k hk=> ?_)
   have h3:=h2 k hk
   simp only[List.all_eq_true] at hs
   have h4:=hs (vs.getD k .undef) (by rw[List.getD_eq_getElem?_getD,List.getElem?_eq_getElem hk];exact List.getElem_mem _)
   generalize vs.getD k .undef=y at h3 h4 ⊢
   split at h4
   ·exact agg _ _ h4 h3
   ·exact lE h4 h3
 ·exact lE hs hr
theorem Mem.after(hm:Mem F C h w){h':Hp}(hc:Mem ⟨w,j8 C h,C.M⟩ C' h' w'):Mem F C' h' w':=by
 have own:∀B,j8 C h B→F.S B∨F.w0.heap.size≤B:=fun B ⟨id,h1,h2⟩=>(hm.lt id B h1 h2).2
 refine⟨hc.objs,hc.prot,fun a v e=> ?_,hc.sep,hc.inj,fun id B aH e=> ?_,hc.kept,hc.ksep,hc.bnd, ?_,hc.gl⟩
 ·rcases hc.src a v e with h1|h1|h1
  ·exact .inl (Nat.le_trans hm.fr.size h1)
  ·rcases own _ h1 with h2|h2
   ·exact .inr (.inl h2)
   ·exact .inl h2
  ·exact hm.src a v h1
 ·obtain⟨h1,h2⟩:=hc.lt id B aH e
  refine⟨h1, ?_⟩
  rcases h2 with h2|h2
  ·exact own _ h2
  ·exact .inr (Nat.le_trans hm.fr.size h2)
 ·refine⟨hc.fr.os.trans hm.fr.os,hc.fr.tape.trans hm.fr.tape,hc.fr.output.trans hm.fr.output,Nat.le_trans hm.fr.size hc.fr.size,fun k hk hs=> ?_⟩
  rw[←hm.fr.block k hk hs]
  refine hc.fr.block k (Nat.lt_of_lt_of_le hk hm.fr.size) (fun h1=> ?_)
  rcases own _ h1 with h2|h2
  ·exact hs h2
  ·have:F.w0.heap.size≤k:=h2
   omega
theorem Mem.before(hm:Mem F C h w):Mem ⟨w,j8 C h,C.M⟩ C h w:=
 ⟨hm.objs,hm.prot,fun _ _ e=>.inr (.inr e),hm.sep,hm.inj,fun id B aH e=>⟨(hm.lt id B aH e).1,.inl ⟨id,aH,e⟩⟩,hm.kept,hm.ksep,hm.bnd,⟨rfl,rfl,rfl,Nat.le_refl _,fun _ _ _=>rfl⟩,hm.gl⟩
def Cx.bare(C:Cx):Cx:={C with μ:=fun _=>.none}
theorem Mem.alone(hm:Mem F C h w):Mem ⟨w,j8 C.bare [],C.M⟩ C.bare [] w:=
 ⟨fun id aH=>by simp at aH,hm.prot,fun _ _ e=>.inr (.inr e),fun id B aH=>by simp at aH,fun i j B hi=>by simp at hi,fun id B aH=>by simp at aH,
   hm.kept,fun B o e id aH=>by simp at aH,fun id r b aH=>by simp at aH,⟨rfl,rfl,rfl,Nat.le_refl _,fun _ _ _=>rfl⟩,hm.gl⟩
theorem pG{C:Cx}{B:Nat}:¬j8 C [] B:=fun ⟨id,aH,_⟩=>by simp at aH
theorem pg{C1:Cx}{r:Hp}(hc:Mem ⟨w,j8 C.bare [],C.M⟩ C1 r w'):Below w.heap.size w w':=
 ⟨hc.fr.os,hc.fr.tape,hc.fr.output,hc.fr.size,fun k hk=>hc.fr.block k hk pG⟩
def lL(C C1:Cx)(n:Nat):Cx:={C with M:=C1.M,μ:=fun i=>if i<n then C.μ i else C1.μ (i-n)}
theorem FQ{c:Cn}{o:Obj}{C1 C2:Cx}{n1 n2:Nat}(ho:lY o=true)(hM:∀a v,C1.M a=some v→C2.M a=some v)(hr:kn C1 n1 w c o):kn C2 n2 w c o:=by
 cases o with
 |arr g sz sh es=>
  cases c with
  |arr g B o cap sz=>
   obtain⟨h1,h2,h3,h4,h5,c,et,h6,h7,h8⟩:=hr
   exact⟨h1,h2,h3,h4,h5,c,et,h6,h7,fun k hk=>⟨(h8 k hk).1.mono hM,(h8 k hk).2⟩⟩
  |nil g=>exact hr
  |none=>exact trivial
  |box _=>exact hr.elim
  |map _=>exact hr.elim
  |loop _ _=>exact hr.elim
 |_=>cases ho
theorem Mem.join(hm:Mem F C h w){C1:Cx}{r:Hp}(hr:r.all lY=true)(hc:Mem ⟨w,j8 C.bare [],C.M⟩ C1 r w')(hx:∀a v,C.M a=some v→C1.M a=some v):
  Mem F (lL C C1 h.length) (h++r) w'∧Ext h.length C (lL C C1 h.length):=by
 have hb:=pg (C:=C) hc
 have bI:Ext h.length C (lL C C1 h.length):=⟨hx,fun _ _ e=>e,fun _ _ e=>e,rfl,fun id aH=>.inl (by simp[lL,aH])⟩
 have old:∀id,id<h.length→Hp.at (h++r) id=h.at id:=fun id aH=>by simp[Hp.at,List.getElem?_append_left aH]
 have new:∀id,¬id<h.length→Hp.at (h++r) id=r.at (id-h.length):=fun id aH=>by simp[Hp.at,List.getElem?_append_right (Nat.le_of_not_lt aH)]
 have BX:∀id,id<h.length→(lL C C1 h.length).μ id=C.μ id:=fun id aH=>by simp[lL,aH]
 have BY:∀id,¬id<h.length→(lL C C1 h.length).μ id=C1.μ (id-h.length):=fun id aH=>by simp[lL,aH]
 have CL:∀id B,id<h.length→(C.μ id).blk=some B→B<w.heap.size:=fun id B aH e=>(hm.lt id B aH e).1
 have CM:∀j B,j<r.length→(C1.μ j).blk=some B→w.heap.size≤B:=fun j B hj e=>by
  rcases (hc.lt j B hj e).2 with h1|h1
  ·exact(pG h1).elim
  ·exact h1
 refine⟨⟨fun id aH=> ?_,hc.prot,fun a v e=> ?_,fun id B aH e a v hv eV=> ?_,fun i j B hi hj e1 e2=> ?_,fun id B aH e=> ?_,fun B o e=> ?_,fun B o e id aH e'=> ?_,fun id r' b aH e=> ?_,hm.fr.grow hb,hm.gl.mono bI.M bI.L⟩,bI⟩
 ·by_cases hi:id<h.length
  ·rw[old id hi,BX id hi]
   exact(hm.objs id hi).mono bI (by simp) (fun B e=>hb.block B (CL id B hi e))
  ·rw[new id hi,BY id hi]
   have hj:id-h.length<r.length:=by simp at aH;omega
   refine FQ (C1:=C1) ?_ (fun _ _ e=>e) (hc.objs _ hj)
   simp only[List.all_eq_true] at hr
   simp only[Hp.at,List.getElem?_eq_getElem hj,Option.getD_some]
   exact hr _ (List.getElem_mem _)
 ·rcases hc.src a v e with h1|h1|h1
  ·exact .inl (Nat.le_trans hm.fr.size h1)
  ·exact(pG h1).elim
  ·exact hm.src a v h1
 ·by_cases hi:id<h.length
  ·rw[BX id hi] at e ⊢
   rw[old id hi]
   have hB:=CL id B hi e
   rcases hc.src a v hv with h1|h1|h1
   ·have:w.heap.size≤a.block:=h1
    omega
   ·exact(pG h1).elim
   ·exact hm.sep id B hi e a v h1 eV
  ·rw[BY id hi] at e ⊢
   rw[new id hi]
   exact hc.sep _ B (by simp at aH;omega) e a v hv eV
 ·by_cases h1:i<h.length<;>by_cases h2:j<h.length
  ·rw[BX i h1] at e1;rw[BX j h2] at e2;exact hm.inj i j B h1 h2 e1 e2
  ·rw[BX i h1] at e1;rw[BY j h2] at e2
   have:=CL i B h1 e1
   have:=CM _ B (by simp at hj;omega) e2
   omega
  ·rw[BY i h1] at e1;rw[BX j h2] at e2
   have:=CL j B h2 e2
   have:=CM _ B (by simp at hi;omega) e1
   omega
  ·rw[BY i h1] at e1;rw[BY j h2] at e2
   have:=hc.inj (i-h.length) (j-h.length) B (by simp at hi;omega) (by simp at hj;omega) e1 e2
   omega
 ·by_cases hi:id<h.length
  ·rw[BX id hi] at e
   obtain⟨h1,h2⟩:=hm.lt id B hi e
   exact⟨Nat.lt_of_lt_of_le h1 hb.size,h2⟩
  ·rw[BY id hi] at e
   have hj:id-h.length<r.length:=by simp at aH;omega
   exact⟨(hc.lt _ B hj e).1,.inr (Nat.le_trans hm.fr.size (CM _ B hj e))⟩
 ·have h1:=hm.kept B o e
  rw[hb.block B (Array.getElem?_eq_some_iff.1 h1).1];exact h1
 ·have h1:=(Array.getElem?_eq_some_iff.1 (hm.kept B o e)).1
  by_cases hi:id<h.length
  ·rw[BX id hi] at e'
   exact hm.ksep B o e id hi e'
  ·rw[BY id hi] at e'
   have hj:id-h.length<r.length:=by simp at aH;omega
   have:=CM _ B hj e'
   omega
 ·by_cases hi:id<h.length
  ·rw[BX id hi] at e
   exact hm.bnd id r' b hi e
  ·rw[BY id hi] at e
   have hj:id-h.length<r.length:=by simp at aH;omega
   have:=hc.bnd _ r' b hj e
   omega
theorem wX{C1:Cx}{m k:Nat}{x:AV}{v:Value}(hr:ar C1 m x v):ar (lL C C1 k) (k+m) (qI k x) v:=by
 cases x with
 |p y=>exact .p _ _ (cn (C:=C1) hr)
 |arr id g off len=>
  have e:(lL C C1 k).μ (id+k)=C1.μ id:=by
   show(if id+k<k then _ else _)=_
   rw[if_neg (by omega),Nat.add_sub_cancel]
  cases hr with
  |arr _ _ _ _ B o cap sz a h1 h2 h3 h4=>exact .arr _ _ _ _ B o cap sz a (by omega) (by rw[e];exact h2) h3 h4
  |arrN _ _ h1 h2=>exact .arrN _ _ (by omega) (by rw[e];exact h2)
  |arrS _ _ _ _ g' a cap h1 h2 h3=>exact .arrS _ _ _ _ g' _ _ (by omega) (by rw[e];exact h2) h3
 |_=>exact .undef _
theorem Au{f:AV→AV}{l:List AV}{k:Nat}(hk:k<l.length):(l.map f).getD k .undef=f (l.getD k .undef):=by
 simp[List.getD_eq_getElem?_getD,hk]
theorem wW{C1:Cx}{m k:Nat}{x:AV}{v:Value}(hr:ar C1 m x v):ar (lL C C1 k) (k+m) (qH k x) v:=by
 cases x with
 |agg cs=>
  cases hr with
  |agg _ vs h1 h2=>
   refine .agg _ _ (by simpa using h1) (fun j hj=> ?_)
   have iO:j<cs.length:=by simpa using hj
   rw[Au iO]
   exact wX (h2 j iO)
 |_=>exact wX hr
theorem GX{C1:Cx}{m k:Nat}{x:AV}{v:Value}(hr:ar C1 m x v):ar (lL C C1 k) (k+m) (np k x) v:=by
 cases x with
 |tup cs=>
  cases hr with
  |tup _ vs h1 h2=>
   refine .tup _ _ (by simpa using h1) (fun j hj=> ?_)
   have iO:j<cs.length:=by simpa using hj
   rw[Au iO]
   exact wW (h2 j iO)
 |_=>exact wW hr
def tT(C C1:Cx)(n0 m:Nat):Cx:={C with M:=C1.M,μ:=fun i=>if n0≤i∧i<n0+m then C1.μ (i-n0) else C.μ i}
theorem Mem.joinFree(hm:Mem F C h w){C1:Cx}{r:Hp}{n0:Nat}(hr:r.all lY=true)(hf:Bh C h n0 r)(hc:Mem ⟨w,j8 C.bare [],C.M⟩ C1 r w')(hx:∀a v,C.M a=some v→C1.M a=some v):
  Mem F (tT C C1 n0 r.length) h w'∧Ext h.length C (tT C C1 n0 r.length)∧∀j,¬(n0≤j∧j<n0+r.length)→(tT C C1 n0 r.length).μ j=C.μ j:=by
 have hb:=pg (C:=C) hc
 have free:∀id,n0≤id∧id<n0+r.length→pt C h id (r.at (id-n0)):=fun id aH=>by
  have hk:id-n0<r.length:=by omega
  have:=hf (id-n0) (r.at (id-n0)) (by simp[Hp.at,List.getElem?_eq_getElem hk])
  rwa [show n0+(id-n0)=id by omega] at this
 have BX:∀id,¬(n0≤id∧id<n0+r.length)→(tT C C1 n0 r.length).μ id=C.μ id:=fun id aH=>if_neg aH
 have BY:∀id,n0≤id∧id<n0+r.length→(tT C C1 n0 r.length).μ id=C1.μ (id-n0):=fun id aH=>if_pos aH
 have bI:Ext h.length C (tT C C1 n0 r.length):=⟨hx,fun _ _ e=>e,fun _ _ e=>e,rfl,fun id _=>by
  by_cases aH:n0≤id∧id<n0+r.length
  ·exact .inr (.inr (free id aH).none)
  ·exact .inl (BX id aH)⟩
 have CL:∀id B,id<h.length→(C.μ id).blk=some B→B<w.heap.size:=fun id B aH e=>(hm.lt id B aH e).1
 have CM:∀j B,j<r.length→(C1.μ j).blk=some B→w.heap.size≤B:=fun j B hj e=>by
  rcases (hc.lt j B hj e).2 with h1|h1
  ·exact(pG h1).elim
  ·exact h1
 refine⟨⟨fun id aH=> ?_,hc.prot,fun a v e=> ?_,fun id B aH e a v hv eV=> ?_,fun i j B hi hj e1 e2=> ?_,fun id B aH e=> ?_,fun B o e=> ?_,fun B o e id aH e'=> ?_,fun id r' b aH e=> ?_,hm.fr.grow hb,hm.gl.mono bI.M bI.L⟩,bI,BX⟩
 ·by_cases hi:n0≤id∧id<n0+r.length
  ·rw[(free id hi).ob,BY id hi]
   have hj:id-n0<r.length:=by omega
   refine FQ (C1:=C1) ?_ (fun _ _ e=>e) (hc.objs _ hj)
   simp only[List.all_eq_true] at hr
   simp only[Hp.at,List.getElem?_eq_getElem hj,Option.getD_some]
   exact hr _ (List.getElem_mem _)
  ·rw[BX id hi]
   exact(hm.objs id aH).mono bI (Nat.le_refl _) (fun B e=>hb.block B (CL id B aH e))
 ·rcases hc.src a v e with h1|h1|h1
  ·exact .inl (Nat.le_trans hm.fr.size h1)
  ·exact(pG h1).elim
  ·exact hm.src a v h1
 ·by_cases hi:n0≤id∧id<n0+r.length
  ·rw[BY id hi] at e ⊢
   rw[(free id hi).ob]
   exact hc.sep _ B (by omega) e a v hv eV
  ·rw[BX id hi] at e ⊢
   have hB:=CL id B aH e
   rcases hc.src a v hv with h1|h1|h1
   ·have:w.heap.size≤a.block:=h1
    omega
   ·exact(pG h1).elim
   ·exact hm.sep id B aH e a v h1 eV
 ·by_cases h1:n0≤i∧i<n0+r.length<;>by_cases h2:n0≤j∧j<n0+r.length
  ·rw[BY i h1] at e1;rw[BY j h2] at e2
   have:=hc.inj (i-n0) (j-n0) B (by omega) (by omega) e1 e2
   omega
  ·rw[BY i h1] at e1;rw[BX j h2] at e2
   have:=CL j B hj e2
   have:=CM _ B (by omega) e1
   omega
  ·rw[BX i h1] at e1;rw[BY j h2] at e2
   have:=CL i B hi e1
   have:=CM _ B (by omega) e2
   omega
  ·rw[BX i h1] at e1;rw[BX j h2] at e2;exact hm.inj i j B hi hj e1 e2
 ·by_cases hi:n0≤id∧id<n0+r.length
  ·rw[BY id hi] at e
   have hj:id-n0<r.length:=by omega
   exact⟨(hc.lt _ B hj e).1,.inr (Nat.le_trans hm.fr.size (CM _ B hj e))⟩
  ·rw[BX id hi] at e
   obtain⟨h1,h2⟩:=hm.lt id B aH e
   exact⟨Nat.lt_of_lt_of_le h1 hb.size,h2⟩
 ·have h1:=hm.kept B o e
  rw[hb.block B (Array.getElem?_eq_some_iff.1 h1).1];exact h1
 ·have h1:=(Array.getElem?_eq_some_iff.1 (hm.kept B o e)).1
  by_cases hi:n0≤id∧id<n0+r.length
  ·rw[BY id hi] at e'
   have:=CM _ B (by omega) e'
   omega
  ·rw[BX id hi] at e'
   exact hm.ksep B o e id aH e'
 ·by_cases hi:n0≤id∧id<n0+r.length
  ·rw[BY id hi] at e
   have:=hc.bnd _ r' b (show id-n0<r.length by omega) e
   omega
  ·rw[BX id hi] at e
   exact hm.bnd id r' b aH e
theorem xW{C1:Cx}{m k n:Nat}(hn:∀i,i<m→k+i<n){x:AV}{v:Value}(hr:ar C1 m x v):ar (tT C C1 k m) n (qI k x) v:=by
 cases x with
 |p y=>exact .p _ _ (cn (C:=C1) hr)
 |arr id g off len=>
  have e:id<m→(tT C C1 k m).μ (id+k)=C1.μ id:=fun aH=>by
   show(if k≤id+k∧id+k<k+m then _ else _)=_
   rw[if_pos (by omega),Nat.add_sub_cancel]
  cases hr with
  |arr _ _ _ _ B o cap sz a h1 h2 h3 h4=>exact .arr _ _ _ _ B o cap sz a (by have:=hn id h1;omega) (by rw[e h1];exact h2) h3 h4
  |arrN _ _ h1 h2=>exact .arrN _ _ (by have:=hn id h1;omega) (by rw[e h1];exact h2)
  |arrS _ _ _ _ g' a cap h1 h2 h3=>exact .arrS _ _ _ _ g' _ _ (by have:=hn id h1;omega) (by rw[e h1];exact h2) h3
 |_=>exact .undef _
theorem xb{C1:Cx}{m k n:Nat}(hn:∀i,i<m→k+i<n){x:AV}{v:Value}(hr:ar C1 m x v):ar (tT C C1 k m) n (qH k x) v:=by
 cases x with
 |agg cs=>
  cases hr with
  |agg _ vs h1 h2=>
   refine .agg _ _ (by simpa using h1) (fun j hj=> ?_)
   have iO:j<cs.length:=by simpa using hj
   rw[Au iO]
   exact xW hn (h2 j iO)
 |_=>exact xW hn hr
theorem L4{C1:Cx}{m k n:Nat}(hn:∀i,i<m→k+i<n){x:AV}{v:Value}(hr:ar C1 m x v):ar (tT C C1 k m) n (np k x) v:=by
 cases x with
 |tup cs=>
  cases hr with
  |tup _ vs h1 h2=>
   refine .tup _ _ (by simpa using h1) (fun j hj=> ?_)
   have iO:j<cs.length:=by simpa using hj
   rw[Au iO]
   exact xb hn (h2 j iO)
 |_=>exact xb hn hr
end
end Go.En
namespace Go.En
open Go.RowKit
section
variable {P:Program} {T:cX} {F:e_} {w w':World} {C C':Cx} {h rd:Hp} {n:Nat} {tm lq:Tm}
theorem mw{o:Oper}{a:Act}{c:Call}{f:Operand}{fi:Nat}{first abY:Array Value}(ho:o.op=.call c)(hc:c.callee=.value f)(hv:a.eval f=.func (.func fi) first abY)
  (WQ:∃fn,P.funcs[fi]? =some fn∧fn.body.isNone=false∧(fn.name== "runtime.NumGoroutine")=false):
  (execOp a.eval o).run P w=.ok (.enter fi (first++c.args.map a.eval++abY)) w:=by
 obtain⟨fn,h1,h2,h3⟩:=WQ
 have p_:¬(fn.body=none):=by
  intro e
  rw[e] at h2
  cases h2
 have Cs:¬(fn.name= "runtime.NumGoroutine"):=by simpa using h3
 simp[execOp,ho,resolve,hc,hv,Deferred.ofValue,invoke,callFunc,h1,p_,Cs]
theorem GP{x:PV}{v:Value}(h:bu C.M x v):ar C n x.up v:=by
 cases x with
 |agg cs=>
  cases h with
  |agg _ vs h1 h2=>
   refine .agg _ _ (by simpa using h1) (fun k hk=> ?_)
   have bT:k<cs.length:=by simpa using hk
   rw[i_ bT]
   exact .p _ _ (h2 k bT)
 |_=>exact .p _ _ h
theorem xI{ps:List PV}{k:Nat}(hk:k<ps.length):(ps.map PV.up).getD k .undef=(ps.getD k .nils).up:=by
 simp[List.getD_eq_getElem?_getD,hk]
theorem nH{x:Operand}{v:Value}{fi:Nat}{cs:List AV}(hc:mQ tm x=some (fi,cs))(hr:ar C n (uv (aX tm x)) v):
  ∃abY,v=.func (.func fi) #[] abY∧abY.size=cs.length∧∀k,k<cs.length→ar C n (cs.getD k .undef) (abY.getD k Go.undef):=by
 unfold mQ at hc
 split at hc
 ·rename_i f ps e
  cases hc
  rw[e] at hr
  cases cn hr with
  |fn _ _ abY h1 h2=>exact⟨abY,rfl,by simpa using h1,fun k hk=>by
    have bT:k<ps.length:=by simpa using hk
    rw[xI bT]
    exact GP (h2 k bT)⟩
 ·rename_i f ps e
  cases hc
  rw[e] at hr
  cases hr with
  |fn _ _ abY h1 h2=>exact⟨abY,rfl,h1,h2⟩
 ·cases hc
theorem pk{α:Type}{l m:List α}{d:α}{k:Nat}:(l++m).getD k d=if k<l.length then l.getD k d else m.getD (k-l.length) d:=by
 simp only[List.getD_eq_getElem?_getD]
 split
 ·rename_i h;rw[List.getElem?_append_left h]
 ·rename_i h;rw[List.getElem?_append_right (by omega)]
theorem FR{a:Act}(ht:∀i,ar C n (look tm i) (a.tmps.getD i Go.undef)){args:Array Operand}{cs:List AV}{abY:Array Value}(hk:ef true tm args.toList=true)(h1:abY.size=cs.length)
  (h2:∀k,k<cs.length→ar C n (cs.getD k .undef) (abY.getD k Go.undef)):(args.map a.eval++abY).size=(gG tm args.toList++cs).length∧
  ∀k,k<(gG tm args.toList++cs).length→ar C n ((gG tm args.toList++cs).getD k .undef) ((args.map a.eval++abY).getD k Go.undef):=by
 have hl:(gG tm args.toList).length=args.size:=by simp[gG]
 refine⟨by simp[hl,h1],fun k bT=> ?_⟩
 rw[pk,hl]
 simp only[List.length_append,hl] at bT
 split
 ·rename_i bW
  have:=wv ht hk k (by simpa using bW)
  have e:(args.map a.eval++abY).getD k Go.undef=(args.toList.map a.eval).getD k Go.undef:=by
   simp only[Array.getD_eq_getD_getElem?,List.getD_eq_getElem?_getD]
   rw[Array.getElem?_append_left (by simpa using bW)]
   simp
  rw[e];exact this
 ·rename_i hge
  have e:(args.map a.eval++abY).getD k Go.undef=abY.getD (k-args.size) Go.undef:=by
   simp only[Array.getD_eq_getD_getElem?]
   rw[Array.getElem?_append_right (by simp;omega)]
   simp
  rw[e];exact h2 _ (by omega)
theorem yP(hm:Mem F C h w)(jM:∀id,rd.at id≠ .dead→h.at id=rd.at id){as:List AV}{vs:Array Value}(hs:vs.size=as.length)(hr:∀k,k<as.length→ar C h.length (as.getD k .undef) (vs.getD k Go.undef))(mu:Bool):
  vs.size=(dS mu rd as).length∧∀k,k<(dS mu rd as).length→ar (C.withM (shown C h (bO mu as) w)) h.length ((dS mu rd as).getD k .undef) (vs.getD k Go.undef):=by
 cases mu with
 |true=>
  simp only[dS,bO,if_true]
  exact⟨hs,fun k hk=>(hr k hk).mono (fQ _ _) (Nat.le_refl _)⟩
 |false=>
  simp only[dS,bO,Bool.false_eq_true,if_false]
  refine⟨by simpa using hs,fun k hk=> ?_⟩
  have bT:k<as.length:=by simpa using hk
  have e:(as.map (snap rd)).getD k .undef=snap rd (as.getD k .undef):=by simp[List.getD_eq_getElem?_getD,bT]
  rw[e]
  refine Oi hm jM (hr k bT) (fun id aH=> ?_)
  simp only[List.mem_flatMap]
  refine⟨as.getD k .undef, ?_,aH⟩
  rw[List.getD_eq_getElem?_getD,List.getElem?_eq_getElem bT];exact List.getElem_mem _
theorem Hv{bs:List AV}(hp:(cZ (bs.flatMap AV.cells)).isSome=true){k:Nat}(hk:k<bs.length):∀x∈(bs.getD k .undef).cells,∃p,x=.p p:=fun x hx=>
 z0 hp x (by
  simp only[List.mem_flatMap]
  refine⟨bs.getD k .undef, ?_,hx⟩
  rw[List.getD_eq_getElem?_getD,List.getElem?_eq_getElem hk];exact List.getElem_mem _)
def CX(fresh:Nat→Bool)(f:Nat)(C:Cx)(h:Hp)(ids:List Nat)(w:World)(r:AV×Hp)(u:Value)(w':World):Prop:=
 ∃C1,(∀a v,shown C h ids w a=some v→C1.M a=some v)∧Mem ⟨w,j8 (C.withM (shown C h ids w)).bare [],shown C h ids w⟩ C1 r.2 w'∧ar C1 r.2.length r.1 u∧
  (fresh f=true→ar (C1.withM (sw w C1.M)) r.2.length r.1 u)
variable {L:ct} {fresh:Nat→Bool}
theorem uM{f:Nat}{as:List AV}{vs:Array Value}{r:AV×Hp}{mu:Bool}(hL:C.L=L)(hm:Mem F C h w)(jM:∀id,rd.at id≠ .dead→h.at id=rd.at id)(hs:vs.size=as.length)
  (hr:∀k,k<as.length→ar C h.length (as.getD k .undef) (vs.getD k Go.undef))(hp:(cZ ((dS mu rd as).flatMap AV.cells)).isSome=true)(aV:dq L fresh P f (dS mu rd as) [] r):
  Calls P f vs w fun
   | .returned u,w'=>CX fresh f C h (bO mu as) w r u w'
   |_,_=>False:=by
 obtain⟨h1,h2⟩:=yP hm jM hs hr mu
 have nX:=hm.share (bO mu as)
 refine(aV.calls w (C.withM (shown C h (bO mu as) w)).bare vs hL nX.alone h1 (fun k hk=>OW (C:=C.withM (shown C h (bO mu as) w)) (C':=(C.withM (shown C h (bO mu as) w)).bare) rfl (Hv hp hk) (h2 k hk))).mono fun e w' he=> ?_
 cases e with
 |returned u=>
  obtain⟨C1,h3,_,h4,h6,h7⟩:=he
  exact⟨C1,h3.M,h4,h6,fun hf=>h7 hf (funext fun B=>propext ⟨pG,False.elim⟩)⟩
 |panicked _=>exact he.elim
 |outgrown=>exact he.elim
noncomputable def nR(C:Cx)(w:World)(M:Addr→Option Value)(a:Addr):Option Value:=
 match C.M a with
 |some v=>some v
 |none=>sw w M a
theorem Mem.plus(hm:Mem F C h w)(hb:Below w.heap.size w w'){M:Addr→Option Value}(hM:∀a v,M a=some v→w'.cell? a=some v):Mem F (C.withM (nR C w M)) h w'∧Ext h.length C (C.withM (nR C w M)):=by
 have inv:∀{a:Addr} {v:Value},nR C w M a=some v→C.M a=some v∨(C.M a=none∧w.heap.size≤a.block∧M a=some v):=by
  intro a v e
  unfold nR at e
  split at e
  ·rename_i u hu;cases e;exact .inl hu
  ·rename_i hu
   unfold sw at e
   split at e
   ·rename_i hle;exact .inr ⟨hu,hle,e⟩
   ·cases e
 have hx:Ext h.length C (C.withM (nR C w M)):=⟨fun a v e=>by show nR C w M a=some v;unfold nR;rw[e],fun _ _ e=>e,fun _ _ e=>e,rfl,fun _ _=>.inl rfl⟩
 have hg:=hm.grow hb
 refine⟨⟨fun id aH=>(hg.objs id aH).mono hx (Nat.le_refl _) (fun _ _=>rfl),fun a v e=> ?_,fun a v e=> ?_,fun id B aH e a v hv eV=> ?_,hg.inj,hg.lt,hg.kept,hg.ksep,hg.bnd,hg.fr,hg.gl.mono hx.M hx.L⟩,hx⟩
 ·rcases inv e with e|⟨_,_,e⟩
  ·exact hg.prot a v e
  ·exact hM a v e
 ·rcases inv e with e|⟨_,h1,_⟩
  ·exact hg.src a v e
  ·exact .inl (Nat.le_trans hm.fr.size h1)
 ·rcases inv hv with hv|⟨_,h1,_⟩
  ·exact hg.sep id B aH e a v hv eV
  ·have:=(hm.lt id B aH e).1
   omega
theorem Aj{f:Nat}{as:List AV}{r:AV×Hp}{mu:Bool}{u:Value}(hm:Mem F C h w)(AF:r.2=[])(he:CX fresh f C h (bO mu as) w r u w'):
  ∃C',Ext h.length C C'∧(∀id,id<h.length→C'.μ id=C.μ id)∧Mem F C' (if scalar r.1=true∨fresh f=true then h else share h (bO mu as)) w'∧ar C' h.length r.1 u:=by
 obtain⟨C1,h1,h2,h3,Cs⟩:=he
 have nX:=hm.share (bO mu as)
 rw[AF] at h2 h3 Cs
 have p8:=pg (C:=C.withM (shown C h (bO mu as) w)) h2
 by_cases Lu:scalar r.1=true
 ·rw[if_pos (.inl Lu)]
  exact⟨C,Ext.refl _ _,fun _ _=>rfl,hm.grow p8,G2 Lu h3⟩
 ·by_cases Dh:fresh f=true
  ·rw[if_pos (.inr Dh)]
   obtain⟨g1,g2⟩:=hm.plus p8 (M:=C1.M) h2.prot
   refine⟨_,g2,fun _ _=>rfl,g1,zV (fun a v e=> ?_) (Cs Dh)⟩
   show nR C w C1.M a=some v
   unfold nR
   split
   ·rename_i u hu
    have e1:=h2.prot a v (by
     have:sw w C1.M a=some v:=e
     unfold sw at this
     split at this
     ·exact this
     ·cases this)
    have e2:=hm.prot a u hu
    have:=kg e2
    have hle:w.heap.size≤a.block:=by
     have:sw w C1.M a=some v:=e
     unfold sw at this
     split at this
     ·assumption
     ·cases this
    omega
   ·exact e
  ·rw[if_neg (fun h=>h.elim Lu Dh)]
   obtain⟨h4,h5⟩:=nX.join (r:=[]) rfl h2 h1
   rw[aY,List.append_nil] at h4
   rw[aY] at h5
   exact⟨_,(fQ _ _).trans h5,fun id aH=>by simp[lL,aH];rfl,h4,zV (C:=C1) (C':=lL (C.withM (shown C h (bO mu as) w)) C1 h.length) (fun _ _ e=>e) h3⟩
theorem KR{f:Nat}{as:List AV}{r:AV×Hp}{mu:Bool}{u:Value}(hm:Mem F C h w)(Rz:r.2.all lY=true)(he:CX fresh f C h (bO mu as) w r u w'):
  ∃C',Ext h.length C C'∧Mem F C' (share h (bO mu as)++r.2) w'∧ar C' (h.length+r.2.length) (np h.length r.1) u:=by
 obtain⟨C1,h1,h2,h3,_⟩:=he
 have nX:=hm.share (bO mu as)
 obtain⟨h4,h5⟩:=nX.join Rz h2 h1
 rw[aY] at h4 h5
 exact⟨_,(fQ _ _).trans h5,h4,GX h3⟩
theorem Sw{f:Nat}{as:List AV}{r:AV×Hp}{ids:List Nat}{u:Value}{n0:Nat}(hm:Mem F C h w)(Rz:r.2.all lY=true)(hi:ids=[])(hf:Bh C h n0 r.2)(he:CX fresh f C h ids w r u w'):
  ∃C',Ext h.length C C'∧(∀j,¬(n0≤j∧j<n0+r.2.length)→C'.μ j=C.μ j)∧Mem F C' h w'∧ar C' h.length (np n0 r.1) u:=by
 subst hi
 obtain⟨C1,h1,h2,h3,_⟩:=he
 have nX:=hm.share []
 rw[Ko] at nX
 obtain⟨h4,h5,h6⟩:=nX.joinFree Rz (fun k ob e=>⟨(hf k ob e).lt,(hf k ob e).none,(hf k ob e).ob⟩) h2 h1
 refine⟨_,(fQ _ _).trans h5,fun j hj=>h6 j hj,h4,L4 (fun i hi=> ?_) h3⟩
 exact(hf i _ (List.getElem?_eq_getElem hi)).lt
theorem L1{f:Nat}{as:List AV}{vs:Array Value}{r:AV×Hp}{mu:Bool}(hL:C.L=L)(hm:Mem F C h w)(hs:vs.size=as.length)
  (hr:∀k,k<as.length→ar C h.length (as.getD k .undef) (vs.getD k Go.undef))(aV:dq L fresh P f (dS mu h as) (share h (bO mu as)) r):
  Calls P f vs w fun
   | .returned u,w'=>∃C',Ext h.length C C'∧Mem F C' r.2 w'∧ar C' r.2.length r.1 u
   |_,_=>False:=by
 obtain⟨h1,h2⟩:=yP hm (fun _ _=>rfl) hs hr mu
 have nX:=hm.share (bO mu as)
 have hl:=aY (h:=h) (bO mu as)
 refine(aV.calls w (C.withM (shown C h (bO mu as) w)) vs hL nX.before h1 (fun k hk=>by rw[hl];exact h2 k hk)).mono fun e w' he=> ?_
 cases e with
 |returned u=>
  obtain⟨C1,h3,_,h4,h6,_⟩:=he
  rw[hl] at h3
  exact⟨C1,(fQ _ _).trans h3,nX.after h4,h6⟩
 |panicked _=>exact he.elim
 |outgrown=>exact he.elim
theorem fS{g:Option Bool}(hg:g.getD true=true){x:AV}{v:Value}(hr:ar C n x v):ar C n (m8 g x) v:=by
 cases g with
 |none=>exact hr
 |some b=>simp at hg;subst hg;exact .gdT _ _ hr
theorem pK{g:Option Bool}(hg:g.getD true=false){x:AV}:ar C n (m8 g x) Go.undef:=by
 cases g with
 |none=>cases hg
 |some b=>simp at hg;subst hg;exact .gdF _
theorem LK(hT:T.Ok P)(hm:Mem F C h w){tm:Tm}{a:Act}(ht:∀i,ar C h.length (look tm i) (a.tmps.getD i Go.undef)){o:Oper}{t len:Nat}{parts:Array (Nat×Operand)}(ho:o.op=.buildSlice t len parts)
  {e:TI}{es:List PV}(h2:elemOf T t=some e)(h3:oU e.size (List.replicate len (cf e)) (parts.toList.map fun (i,x)=>(i,uv (aX tm x)))=some es)
  (h4:0<e.size)(h5:len*e.size≤16777216)(h6:(cf e).cells.length=e.size)(hk:ef true tm (parts.toList.map (·.2))=true):
  ∃v w',(execOp a.eval o).run P w=.ok (.value v) w'∧∃C',Ext h.length C C'∧C'.μ=C.μ∧Mem F C' h w'∧ar C' h.length (.p (.sl es)) v:=by
 obtain⟨dst,op,type,pos,after,guard⟩:=o
 simp only at ho
 subst ho
 obtain⟨et,h7,h8⟩:=dn hT h2
 obtain⟨z,h9,jU,nz⟩:=m_ (w:=w) hT h8
 have gK:=run_sizeOf (w:=w) hT h8
 have aa:=wE (M:=C.M) (len:=len) jU h6 (nz C.M) (m:=len*e.size) (Nat.le_refl _)
 obtain⟨c',g1,g2,g3,g4⟩:=uE (C:=C) (n:=h.length) (u:=fun x=>uv (aX tm x)) (e:=a.eval) parts.toList _ es _ (by simp) aa (fun p hp=>by
  simp only[ef,List.all_eq_true] at hk
  exact j9 ht (hk p.2 (List.mem_map_of_mem hp))) h3
 simp only[List.length_replicate] at g2 g3
 have Mp:len*e.size=0→(Array.range (len*e.size)).map ((#[]:Array Value)[· % (#[]:Array Value).size]!)=(Array.range (len*e.size)).map (z.cells[· % z.cells.size]!):=fun hz=>by simp[hz]
 have hf:Instr.fill (fun i=>some (i*e.size,e.size)) ((Array.range (len*e.size)).map (z.cells[· % z.cells.size]!)) (parts.map fun (i,x)=>(i,a.eval x)).toList=some c':=by simpa using g1
 have PG:(Instr.buildSlice t len (parts.map fun (i,x)=>(i,a.eval x))).run P w=.ok (.slice (some ⟨w.heap.size,0,none⟩) len len) (w.alloc (.cells c' et)):=by
  simp only[Instr.buildSlice,Sem.run_bind,run_underlying h7,Result.andThen_ok,gK,Sem.run_ite]
  rw[if_neg (by omega)]
  simp only[Sem.run_pure,Result.andThen_ok]
  split
  ·rename_i hz
   rw[Mp hz,hf];rfl
  ·rw[h9];simp only[Result.andThen_ok]
   rw[hf];rfl
 obtain⟨m1,x1⟩:=hm.plus (dT w (.cells c' et)) (M:=(w.alloc (.cells c' et)).cell?) (fun _ _ e=>e)
 refine⟨.slice (some ⟨w.heap.size,0,none⟩) len len,_,by simp[execOp,PG],_,x1,rfl,m1,.p _ _ ?_⟩
 obtain⟨r1,r2⟩:=g4
 have zF:=bK r1
 have key:∀k,k<(flat es).length→nR C w (w.alloc (.cells c' et)).cell? ⟨w.heap.size,0+k,none⟩=some (c'.getD (0+k) Go.undef):=by
  intro k hk
  have bT:0+k<c'.size:=by rw[zF,g2] at hk;omega
  have hc:(w.alloc (.cells c' et)).cell? ⟨w.heap.size,0+k,none⟩=some (c'.getD (0+k) Go.undef):=by
   rw[cH (heap_alloc w _)]
   exact getD_some bT
  unfold nR
  cases hM:C.M ⟨w.heap.size,0+k,none⟩ with
  |some v=>
   have:=kg (hm.prot _ _ hM)
   simp at this
  |none=>simp only[sw,Nat.le_refl,if_true];exact hc
 have:=bu.sl (M:=(C.withM (nR C w (w.alloc (.cells c' et)).cell?)).M) es w.heap.size 0 len e.size (fun k=>c'.getD (0+k) Go.undef) (by omega) r1 (fun k hk=>⟨key k hk,(r2 k hk).2⟩) (fun k hk=>(r2 k hk).1.mono x1.M)
 rwa [g2] at this
section
variable {ops:Array Oper} {o:Oper} {a:Act} {g:Option Bool}
theorem Ap{op:Op}{r:O}(h1:sr T rd tm op=some r):∀c,op≠ .defer c:=by
 intro c e;subst e;simp[sr] at h1
theorem K_{own:Nat}{op:Op}{r:A}(h1:pY T own rd tm op=some r):∀c,op≠ .defer c:=by
 intro c e;subst e;simp[pY] at h1
theorem pI{op:Op}{r:Hp×AV}(h1:wc T h tm op=some r):∀c,op≠ .defer c:=by
 intro c e;subst e;simp[wc] at h1
theorem i7{op:Op}{c:Call}(h1:op=.call c):∀c,op≠ .defer c:=by
 intro c e;subst e;cases h1
variable {rn:Option Nat}
theorem QR(hT:T.Ok P)(hG:∀g cs,T.glob g=some cs→C.L.glob g=some cs)(hm:Mem F C h w)(jM:∀id,rd.at id≠ .dead→h.at id=rd.at id)(ht:∀i,ar C h.length (look tm i) (a.tmps.getD i Go.undef))(hw:Region.wanted o (yielded ops a.tmps)=g.getD true)
  {r:O}(h1:sr T rd tm o.op=some r)(hk:(!g.getD true||(r.ok&&gu (g.getD true) tm o.op))=true):pv rn P ops o a w fun u w'=>∃C',Ext h.length C C'∧C'.μ=C.μ∧Mem F C' h w'∧ar C' h.length (m8 g r.v) u:=by
 cases hg:g.getD true with
 |false=>rw[hg] at hw;exact fM hw ⟨C,Ext.refl _ _,rfl,hm,pK hg⟩
 |true=>
  rw[hg] at hw hk
  simp at hk
  by_cases hb:∃t len parts,o.op=.buildSlice t len parts
  ·obtain⟨t,len,parts,ho⟩:=hb
   have nA:=h1
   rw[ho] at nA
   simp only[sr,Option.bind_eq_some_iff,Option.map_eq_some_iff] at nA
   obtain⟨e,k1,es,k2,rfl⟩:=nA
   have jG:=hk.1
   simp only[decide_eq_true_eq] at jG
   have jA:=hk.2
   rw[ho] at jA
   obtain⟨v,w',k3,C',k4,k5,k6,k7⟩:=LK hT hm ht ho k1 k2 jG.1 jG.2.1 jG.2.2 jA
   exact kW (Ap h1) hw k3 ⟨C',k4,k5,k6,fS hg k7⟩
  ·obtain⟨v,h2,h3⟩:=K3 hT hG hm jM ht (fun t len parts e=>hb ⟨t,len,parts,e⟩) h1 hk.1 hk.2
   exact kW (Ap h1) hw h2 ⟨C,Ext.refl _ _,rfl,hm,fS hg h3⟩
theorem R1(hT:T.Ok P)(hm:Mem F C h w)(jM:∀id,rd.at id≠ .dead→h.at id=rd.at id)(ht:∀i,ar C h.length (look tm i) (a.tmps.getD i Go.undef))(hw:Region.wanted o (yielded ops a.tmps)=g.getD true)
  {own:Nat}{r:A}(h1:pY T own rd tm o.op=some r)(hk:(!g.getD true||(r.ok&&gu (g.getD true) tm o.op))=true){id:Nat}(hf:Bh C h id (r.obj id::r.aux)):
  pv rn P ops o a w fun u w'=>∃C',Ext h.length C C'∧(∀j,¬(id≤j∧j<id+(r.aux.length+1))→C'.μ j=C.μ j)∧Mem F C' h w'∧ar C' h.length (m8 g (r.mk id)) u:=by
 cases hg:g.getD true with
 |false=>rw[hg] at hw;exact fM hw ⟨C,Ext.refl _ _,fun _ _=>rfl,hm,pK hg⟩
 |true=>
  rw[hg] at hw hk
  simp at hk
  obtain⟨v,w',C',h2,h3,h4,h5,h6⟩:=K5 hT hm jM ht h1 hk.1 hk.2 hf
  exact kW (K_ h1) hw h2 ⟨C',h3,h4,h5,fS hg h6⟩
end
end
end Go.En
