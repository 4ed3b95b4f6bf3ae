/- An evaluation of the model's code on plain data, and what it needs of the model: no conditions. -/
import GoSem.Step
import Derived.Below
import Derived.Laws.Rows
import Derived.Laws.Cells
import Derived.Laws.AppendOwn
import Derived.Laws.Slices
import Derived.Laws.CopyRow
import Derived.Calls
import Derived.Laws.Tables
import Derived.Laws.StructEq
import Derived.MapKept
import Derived.Laws.Append
namespace Go.En

/-- Pure, immutable values: what is read of memory that nobody writes any more. -/
inductive PV where
  | int (k : IntKind) (n : Int)
  | bool (b : Bool)
  | str (s : ByteArray)
  | agg (cs : List PV)
  | sl (es : List PV)
  | nils
  | ptr (cs : List PV) (off : Nat)
  | nilp
  | fn (f : Nat) (caps : List PV)
  | nilf
  | ifc (t : Nat) (x : PV)
  | nili
  | nilm
  deriving Inhabited

/-- What a variable of a frame holds. -/
inductive AV where
  | p (x : PV)
  | agg (cs : List AV)
  | ref (id off : Nat)
  | arr (id gen off len : Nat)
  | elt (id gen i off : Nat)
  | fn (f : Nat) (caps : List AV)
  | yl (id : Nat)
  | map (id : Nat)
  | tup (vs : List AV)
  | gd (b : Bool) (v : AV)
  | undef
  deriving Inhabited

abbrev Tm := List (Nat × AV)

inductive Ex where
  | nor | exit (id : Nat) | ret

/-- Where a range over a function stands: between two rounds; in a round; left by a round, in this way. -/
inductive LS where
  | ready | busy | done (e : Ex)

/-- A block of the call's own: cells; a row that may grow (its elements have sz cells); a map; what is kept of a range over a function (function f, loop lid, its variables). -/
inductive Obj where
  | box (cs : List AV)
  | arr (gen sz : Nat) (shared : Bool) (es : List PV)
  | map (es : List (PV × PV))
  | loop (st : LS) (f lid : Nat) (tm : Tm)
  | dead
  deriving Inhabited

abbrev Hp := List Obj

structure TI where
  desc : TypeDesc
  size : Nat
  bytes : Nat
  zero : List PV

/-- What is told of types, and of loops and functions. -/
structure Tab where
  info : Nat → Option TI
  /-- at a loop of a function (by the number of its block): the variables that are kept from round to round -/
  keep : Nat → Nat → List Nat
  /-- a variable of a function that holds a row of its own (of elements of so many cells) where it is nil; 0: none -/
  own : Nat → Nat → Nat
  /-- a function that is handed rows of the call's own as they are, not a picture of them -/
  muts : Nat → Bool
  /-- in a region that draws, the operations that stand between all others (by the region's number) -/
  seqs : Nat → Nat → List Nat
  /-- in a region that draws: an operation that writes a block (its number) while others that do not look at that block may come before it or behind it; some of those that come before it -/
  late : Nat → Nat → Option (Nat × Nat × List Nat)
  /-- a function whose results are scalars and new rows of scalars: what it was shown stays its caller's alone -/
  fresh : Nat → Bool
  /-- a function that hands over the blocks that it made, as they are -/
  gives : Nat → Bool
  /-- a range over a function (by the number of its block): the variables that a round sets, the assignments to the left sides, the body -/
  loops : Nat → Nat → Option (List Nat × Code × Code)

structure St where
  tm : Tm
  hp : Hp

/-- One behind the other. (Defined by themselves, that a simplifier looks behind the first alone when it is known.) -/
def obind {α β : Type} (a : Option α) (f : α → Option β) : Option β :=
  match a with
  | none => none
  | some x => f x
def ocase {α β : Type} (a : Option α) (f : α → β) (g : Unit → β) : β :=
  match a with
  | none => g ()
  | some x => f x
def chk (b : Bool) : Option Unit := if b = true then some () else none

theorem obind_some {α β : Type} (x : α) (f : α → Option β) : obind (some x) f = f x := rfl
theorem obind_none {α β : Type} (f : α → Option β) : obind none f = none := rfl
theorem obind_ite {α β : Type} (c : Prop) [Decidable c] (a b : Option α) (f : α → Option β) : obind (if c then a else b) f = if c then obind a f else obind b f := by split <;> rfl
theorem obind_congr {α β : Type} {a a' : Option α} {f : α → Option β} (h : a = a') : obind a f = obind a' f := by rw [h]
theorem ocase_some {α β : Type} (x : α) (f : α → β) (g : Unit → β) : ocase (some x) f g = f x := rfl
theorem ocase_none {α β : Type} (f : α → β) (g : Unit → β) : ocase none f g = g () := rfl
theorem ocase_congr {α β : Type} {a a' : Option α} {f : α → β} {g : Unit → β} (h : a = a') : ocase a f g = ocase a' f g := by rw [h]
theorem chk_true : chk true = some () := rfl
theorem chk_false : chk false = none := rfl
theorem obind_chk {β : Type} (b : Bool) (f : Unit → Option β) : obind (chk b) f = if b = true then f () else none := by cases b <;> rfl

def look : Tm → Nat → AV
  | [], _ => .undef
  | (k, v) :: r, i => if k = i then v else look r i

def put : Tm → Nat → AV → Tm
  | [], i, v => [(i, v)]
  | (k, u) :: r, i, v => if k = i then (k, v) :: r else (k, u) :: put r i v

def putO (t : Tm) (d : Option Nat) (v : AV) : Tm :=
  match d with
  | some i => put t i v
  | none => t

-- ---------------------------------------------------------------- values
def AV.cells : AV → List AV
  | .agg cs => cs
  | x => [x]
def PV.cells : PV → List PV
  | .agg cs => cs
  | x => [x]
def AV.one : AV → Bool
  | .p (.agg _) => false
  | .p _ => true
  | .ref _ _ => true
  | .arr _ _ _ _ => true
  | .elt _ _ _ _ => true
  | .fn _ _ => true
  | .yl _ => true
  | .map _ => true
  | _ => false

def toPs : List AV → Option (List PV)
  | [] => some []
  | .p x :: r => (toPs r).map (x :: ·)
  | _ => none
/-- A value that is pure as it stands. -/
def AV.toP : AV → Option PV
  | .p x => some x
  | .agg cs => (toPs cs).map .agg
  | _ => none
/-- A pure value as a frame holds it: a struct's cells side by side. -/
def PV.up : PV → AV
  | .agg cs => .agg (cs.map .p)
  | x => .p x

def ofVal1 : Value → Option AV
  | .int k n => some (.p (.int k n))
  | .bool b => some (.p (.bool b))
  | .string s => some (.p (.str s))
  | .slice none 0 0 => some (.p .nils)
  | .pointer none => some (.p .nilp)
  | .nilFunc => some (.p .nilf)
  | .nilIface => some (.p .nili)
  | .map none => some (.p .nilm)
  | _ => none
def ofVals : List Value → Option (List AV)
  | [] => some []
  | v :: r => (ofVal1 v).bind fun x => (ofVals r).map (x :: ·)
def ofVal : Value → AV
  | .agg cs => ((ofVals cs.toList).map .agg).getD .undef
  | v => (ofVal1 v).getD .undef

def evo (tm : Tm) : Operand → AV
  | .tmp t => look tm t
  | .const v => ofVal v
  | .func f => .p (.fn f [])
  | .global _ => .undef

/-- An operand under the guard g: what it is, and what has to hold for that. -/
def uv : AV → AV
  | .gd _ x => x
  | x => x
def uk (g : Bool) : AV → Bool
  | .gd b _ => !g || b
  | _ => true

/-- What an operation yields; `ok`: that it yields this. -/
structure O where
  v : AV
  ok : Bool

def O.bad : O := ⟨.undef, false⟩
def O.of : Option AV → O
  | some v => ⟨v, true⟩
  | none => .bad

-- ---------------------------------------------------------------- operations that only compute
def intBin (op : BinOp) (k : IntKind) (a b : Int) : O :=
  match op with
  | .add => ⟨.p (.int k (k.wrap (a + b))), true⟩
  | .sub => ⟨.p (.int k (k.wrap (a - b))), true⟩
  | .mul => ⟨.p (.int k (k.wrap (a * b))), true⟩
  | .quo => ⟨.p (.int k (k.wrap (a.tdiv b))), decide (b ≠ 0)⟩
  | .rem => ⟨.p (.int k (a.tmod b)), decide (b ≠ 0)⟩
  | .and => ⟨.p (.int k (k.wrap ((BitVec.ofInt k.bits a &&& BitVec.ofInt k.bits b).toNat : Int))), true⟩
  | .or => ⟨.p (.int k (k.wrap ((BitVec.ofInt k.bits a ||| BitVec.ofInt k.bits b).toNat : Int))), true⟩
  | .xor => ⟨.p (.int k (k.wrap ((BitVec.ofInt k.bits a ^^^ BitVec.ofInt k.bits b).toNat : Int))), true⟩
  | .andNot => ⟨.p (.int k (k.wrap ((BitVec.ofInt k.bits a &&& ~~~ BitVec.ofInt k.bits b).toNat : Int))), true⟩
  | .shl => ⟨.p (.int k (k.wrap (a * 2 ^ (min b.toNat k.bits)))), decide (0 ≤ b)⟩
  | .shr => ⟨.p (.int k (a.fdiv (2 ^ (min b.toNat k.bits)))), decide (0 ≤ b)⟩
  | .eql => ⟨.p (.bool (a == b)), true⟩
  | .neq => ⟨.p (.bool (a != b)), true⟩
  | .lss => ⟨.p (.bool (decide (a < b))), true⟩
  | .leq => ⟨.p (.bool (decide (a ≤ b))), true⟩
  | .gtr => ⟨.p (.bool (decide (a > b))), true⟩
  | .geq => ⟨.p (.bool (decide (a ≥ b))), true⟩

def strBin (op : BinOp) (x y : ByteArray) : O :=
  match op with
  | .add => ⟨.p (.str (x ++ y)), decide (((x.size + y.size : Nat) : Int) ≤ 9223372036854775807)⟩
  | .eql => ⟨.p (.bool (x.toList == y.toList)), true⟩
  | .neq => ⟨.p (.bool !(x.toList == y.toList)), true⟩
  | .lss => ⟨.p (.bool (Op.bytesLess x.toList y.toList)), true⟩
  | .leq => ⟨.p (.bool (Op.bytesLess x.toList y.toList || x.toList == y.toList)), true⟩
  | .gtr => ⟨.p (.bool !(Op.bytesLess x.toList y.toList || x.toList == y.toList)), true⟩
  | .geq => ⟨.p (.bool !(Op.bytesLess x.toList y.toList)), true⟩
  | _ => .bad

/-- '==' of cells that are whole numbers, bools and strings. -/
def eqC : PV → PV → Option Bool
  | .int k a, .int k' b => if k = k' then some (a == b) else none
  | .bool a, .bool b => some (a == b)
  | .str a, .str b => some (a == b)
  | _, _ => none
def descOf (T : Tab) (t : Nat) : Option TypeDesc := match T.info t with | some i => some i.desc | none => none

/-- '==' of two values of a type of whole numbers, bools or strings. -/
def eqD : Option TypeDesc → AV → AV → Option Bool
  | some (.int _), .p (.int k a), .p (.int k' b) => if k = k' then some (a == b) else none
  | some .bool, .p (.bool a), .p (.bool b) => some (a == b)
  | some .string, .p (.str a), .p (.str b) => some (a.toList == b.toList)
  | _, _, _ => none

/-- '==' of structs whose fields are one cell each, whole numbers, bools or strings with a name that counts. -/
def eqFs (T : Tab) : Nat → List Field → List AV → List AV → Option Bool
  | _, [], [], [] => some true
  | n, f :: r, x :: xs, y :: ys => if f.name ≠ "_" ∧ f.offset = n then
      (eqD (descOf T f.type) x y).bind fun b => (eqFs T (n + 1) r xs ys).map fun c => b && c
    else none
  | _, _, _, _ => none

def binV (d : TypeDesc) (op : BinOp) (x y : AV) : O :=
  match x, y with
  | .p (.int k a), .p (.int k' b) => match op with
    | .shl => intBin .shl k a b
    | .shr => intBin .shr k a b
    | op => if k = k' then intBin op k a b else .bad
  | .p (.str a), .p (.str b) => strBin op a b
  | .p (.bool a), .p (.bool b) => match op, d with
    | .eql, .bool => ⟨.p (.bool (a == b)), true⟩
    | .neq, .bool => ⟨.p (.bool !(a == b)), true⟩
    | _, _ => .bad
  | _, _ => .bad

def unV (op : UnOp) (x : AV) : O :=
  match op, x with
  | .not, .p (.bool b) => ⟨.p (.bool !b), true⟩
  | .neg, .p (.int k n) => ⟨.p (.int k (k.wrap (0 - n))), true⟩
  | .xor, .p (.int k n) => ⟨.p (.int k (k.wrap ((BitVec.ofInt k.bits (if k.signed then -1 else k.max) ^^^ BitVec.ofInt k.bits n).toNat : Int))), true⟩
  | _, _ => .bad

def AV.lenOf : AV → Option Nat
  | .p (.sl l) => some l.length
  | .p .nils => some 0
  | .p (.str s) => some s.size
  | .arr _ _ _ n => some n
  | _ => none

-- ---------------------------------------------------------------- addresses
def Hp.at (h : Hp) (id : Nat) : Obj := (h[id]?).getD .dead

/-- The cells around an address, and where among them it stands. -/
def cellsAt (h : Hp) : AV → Option (List AV × Nat)
  | .p (.ptr cs off) => some (cs.map .p, off)
  | .ref id off => match h.at id with
    | .box cs => some (cs, off)
    | _ => none
  | .elt id g i off => match h.at id with
    | .arr g' _ _ es => if g = g' then (es[i]?).map fun x => (x.cells.map .p, off) else none
    | _ => none
  | _ => none

def shiftA (n : Nat) : AV → Option AV
  | .p (.ptr cs off) => some (.p (.ptr cs (off + n)))
  | .ref id off => some (.ref id (off + n))
  | .elt id g i off => some (.elt id g i (off + n))
  | _ => none

def isAggD : TypeDesc → Bool
  | .struct _ => true
  | .array _ _ => true
  | _ => false

def loadV (T : Tab) (h : Hp) (t : Nat) (a : AV) : O :=
  match T.info t, cellsAt h a with
  | some i, some (cs, off) =>
    if isAggD i.desc then ⟨.agg ((cs.drop off).take i.size), decide (off + i.size ≤ cs.length)⟩
    else ⟨cs.getD off .undef, decide (off < cs.length)⟩
  | _, _ => .bad

def fieldOf (T : Tab) (s f : Nat) : Option (Nat × TI) :=
  match descOf T s with
  | some (.struct fs) => (fs.toList[f]?).bind fun x => (T.info x.type).map fun i => (x.offset, i)
  | _ => none

def elemOf (T : Tab) (t : Nat) : Option TI :=
  match descOf T t with
  | some (.slice e) => T.info e
  | _ => none

def fieldV (T : Tab) (s : Nat) (x : AV) (f : Nat) : O :=
  match fieldOf T s f with
  | some (off, i) => if i.size = 0 then .bad else .of (shiftA off x)
  | none => .bad

def partV (T : Tab) (s : Nat) (x : AV) (f : Nat) : O :=
  match fieldOf T s f, x with
  | some (off, i), .agg cs =>
    if isAggD i.desc then ⟨.agg ((cs.drop off).take i.size), decide (off + i.size ≤ cs.length)⟩
    else ⟨cs.getD off .undef, decide (off < cs.length)⟩
  | _, _ => .bad

def indexAddrV (T : Tab) (h : Hp) (t : Nat) (x i : AV) : O :=
  match x, i with
  | .p (.sl l), .p (.int _ n) => match elemOf T t with
    | some e => ⟨.p (.ptr (l.getD n.toNat .nils).cells 0), decide (0 ≤ n ∧ n < (l.length : Int)) && decide ((l.getD n.toNat .nils).cells.length = e.size)⟩
    | none => .bad
  | .arr id g off len, .p (.int _ n) => match elemOf T t, h.at id with
    | some e, .arr g' sz _ es => ⟨.elt id g (off + n.toNat) 0, decide (0 ≤ n ∧ n < (len : Int)) && (decide (g = g' ∧ sz = e.size ∧ off + len ≤ es.length))⟩
    | _, _ => .bad
  | .ref id off, .p (.int _ n) => match descOf T t with
    | some (.array len e) => match T.info e with
      | some i => ⟨.ref id (off + n.toNat * i.size), decide (0 ≤ n ∧ n < (len : Int))⟩
      | none => .bad
    | _ => .bad
  | _, _ => .bad

def strAt (s : ByteArray) (i : Int) : Int := ((s.data.toList.getD i.toNat 0).toNat : Int)

def indexV (T : Tab) (t : Nat) (x i : AV) : O :=
  match x, i with
  | .p (.str s), .p (.int _ n) => match descOf T t with
    | some .string => ⟨.p (.int .u8 (strAt s n)), decide (0 ≤ n ∧ n < (s.size : Int))⟩
    | _ => .bad
  | .agg cs, .p (.int _ n) => match descOf T t with
    | some (.array len e) => match T.info e with
      | some i => if isAggD i.desc || i.size != 1 then .bad else ⟨cs.getD n.toNat .undef, decide (0 ≤ n ∧ n < (len : Int) ∧ n < (cs.length : Int))⟩
      | none => .bad
    | _ => .bad
  | _, _ => .bad

/-- A bound of a slice expression: given, or not. -/
def bnd (d : Nat) : Option AV → Option Int
  | none => some d
  | some (.p (.int _ n)) => some n
  | _ => none

def sliceV (T : Tab) (h : Hp) (t : Nat) (x : AV) (lo hi : Option AV) : O :=
  match bnd 0 lo, (x.lenOf).bind fun n => bnd n hi with
  | some l, some r => match x with
    | .p (.sl es) => match elemOf T t with
      | some e => ⟨.p (.sl ((es.take r.toNat).drop l.toNat)), decide (0 ≤ l ∧ l ≤ r ∧ r ≤ (es.length : Int)) && decide (l = 0 ∨ ∀ x ∈ es, x.cells.length = e.size)⟩
      | none => .bad
    | .p .nils => if (elemOf T t).isSome then ⟨.p .nils, decide (l = 0 ∧ r = 0)⟩ else .bad
    | .p (.str s) => match descOf T t with
      | some .string => ⟨.p (.str (s.extract l.toNat r.toNat)), decide (0 ≤ l ∧ l ≤ r ∧ r ≤ (s.size : Int))⟩
      | _ => .bad
    | .arr id g off len => match elemOf T t, h.at id with
      | some e, .arr g' sz _ es => ⟨.arr id g (off + l.toNat) (r - l).toNat, decide (0 ≤ l ∧ l ≤ r ∧ (off : Int) + r ≤ (es.length : Int)) && decide (g = g' ∧ sz = e.size ∧ off + len ≤ es.length)⟩
      | _, _ => .bad
    | _ => .bad
  | _, _ => .bad

def pickV (b : Bool) (x y : AV) : O :=
  match uv x, uv y with
  | .p (.bool p), .p (.bool q) => ⟨.p (.bool (if b then p else q)), (!b || uk true x) && (b || uk true y)⟩
  | x', y' => if b = true then ⟨x', uk true x⟩ else ⟨y', uk true y⟩

def splice (cs : List AV) (off : Nat) (vs : List AV) : List AV := cs.take off ++ vs ++ cs.drop (off + vs.length)

def fillS (T : Tab) (s : Nat) : List AV → List (Nat × AV) → Option (List AV)
  | cs, [] => some cs
  | cs, (f, v) :: r => (fieldOf T s f).bind fun p => if v.cells.length = p.2.size ∧ p.1 + p.2.size ≤ cs.length ∧ v.cells.all AV.one = true then fillS T s (splice cs p.1 v.cells) r else none

def buildV (T : Tab) (t : Nat) (parts : List (Nat × AV)) : O :=
  match T.info t with
  | some i => match i.desc with
    | .struct _ => .of ((fillS T t (i.zero.map .p) parts).map .agg)
    | _ => .bad
  | none => .bad

def convV (T : Tab) (src dst : Nat) (x : AV) : O :=
  match descOf T dst, x with
  | some (.int k), .p (.int _ n) => match descOf T src with
    | some (.int _) => ⟨.p (.int k (k.wrap n)), true⟩
    | _ => .bad
  | some .string, .p (.str s) => match descOf T src with
    | some .string => ⟨.p (.str s), true⟩
    | _ => .bad
  | _, _ => .bad

def minV (mx : Bool) : List AV → Option AV
  | [.p (.int k a)] => some (.p (.int k a))
  | [.p (.int k a), .p (.int _ b)] => some (.p (.int k (if (if mx then b > a else b < a) then b else a)))
  | _ => none

def mput (k v : PV) : List (PV × PV) → Option (List (PV × PV))
  | [] => some [(k, v)]
  | (k', v') :: r => (eqC k k').bind fun b => if b then some ((k, v) :: r) else (mput k v r).map ((k', v') :: ·)
def mdel (k : PV) : List (PV × PV) → Option (List (PV × PV))
  | [] => some []
  | (k', v') :: r => (eqC k k').bind fun b => if b then some r else (mdel k r).map ((k', v') :: ·)
def mget (k : PV) : List (PV × PV) → Option (Option PV)
  | [] => some none
  | (k', v') :: r => (eqC k k').bind fun b => if b then some (some v') else mget k r

def mapDesc (T : Tab) (t : Nat) : Option (TypeDesc × TI) :=
  match descOf T t with
  | some (.map k e) => (descOf T k).bind fun kd => (T.info e).map fun i => (kd, i)
  | _ => none
/-- A key that can be told from others at once. -/
def keyOk (d : TypeDesc) (k : PV) : Bool :=
  match d, k with
  | .int k', .int k _ => decide (k = k')
  | .string, .str _ => true
  | .bool, .bool _ => true
  | _, _ => false
def keysOk (d : TypeDesc) (es : List (PV × PV)) : Bool := es.all fun e => keyOk d e.1

/-- What stands in a map under a key. -/
def lookupV (T : Tab) (h : Hp) (t : Nat) (m k : AV) (c : Bool) : O :=
  match m, k, mapDesc T t with
  | .map id, .p k, some (kd, i) => match h.at id with
    | .map es => if keyOk kd k ∧ keysOk kd es ∧ isAggD i.desc = false then
        match mget k es, i.zero with
        | some (some v), _ => ⟨if c then .tup [.p v, .p (.bool true)] else .p v, true⟩
        | some none, [z] => ⟨if c then .tup [.p z, .p (.bool false)] else .p z, true⟩
        | _, _ => .bad
      else .bad
    | _ => .bad
  | _, _, _ => .bad

-- ---------------------------------------------------------------- operations, by kind
def evs (tm : Tm) (l : List Operand) : List AV := l.map fun x => uv (evo tm x)
def eks (g : Bool) (tm : Tm) (l : List Operand) : Bool := l.all fun x => uk g (evo tm x)

/-- An operation that makes nothing and writes nothing: what it yields. Memory is read as h has it. -/
def opV (T : Tab) (h : Hp) (tm : Tm) (op : Op) : Option O :=
  let u := fun x => uv (evo tm x)
  match op with
  | .move x => some ⟨u x, true⟩
  | .assign x => some ⟨u x, true⟩
  | .pick c a b => match u c with
    | .p (.bool b') => some (pickV b' (evo tm a) (evo tm b))
    | _ => none
  | .load t a => some (loadV T h t (u a))
  | .nilCheck x => match u x with
    | .p (.ptr cs o) => some ⟨.p (.ptr cs o), true⟩
    | .ref i o => some ⟨.ref i o, true⟩
    | .elt i g n o => some ⟨.elt i g n o, true⟩
    | _ => none
  | .binOp op t x y _ => match u x, u y with
    | .agg a, .agg b => match descOf T t, op with
      | some (.struct fs), .eql => some (.of ((eqFs T 0 fs.toList a b).map fun r => .p (.bool r)))
      | some (.struct fs), .neq => some (.of ((eqFs T 0 fs.toList a b).map fun r => .p (.bool !r)))
      | _, _ => none
    | a, b => match descOf T t with
      | some d => some (binV d op a b)
      | _ => none
  | .unOp op _ x => some (unV op (u x))
  | .convert s d x => some (convV T s d (u x))
  | .makeFunc (.func f) first caps => if first.size = 0 then some ⟨.fn f (evs tm caps.toList), true⟩ else none
  | .slice t x lo hi none => some (sliceV T h t (u x) (lo.map u) (hi.map u))
  | .fieldAddr s x f => some (fieldV T s (u x) f)
  | .field s x f => some (partV T s (u x) f)
  | .indexAddr t x i => some (indexAddrV T h t (u x) (u i))
  | .index t x i => some (indexV T t (u x) (u i))
  | .build t parts => some (buildV T t (parts.toList.map fun (i, x) => (i, u x)))
  | .lookup t m k c => some (lookupV T h t (u m) (u k) c)
  | .extract t i => match u t with
    | .tup vs => some (.of vs[i]?)
    | _ => none
  | .call c => match c.callee with
    | .builtin .len => match evs tm c.args.toList, c.argTypes.toList with
      | [x], [t] => match descOf T t, x with
        | some .string, .p (.str s) => some ⟨.p (.int .i64 s.size), true⟩
        | some (.slice _), .p (.sl l) => some ⟨.p (.int .i64 l.length), true⟩
        | some (.slice _), .p .nils => some ⟨.p (.int .i64 0), true⟩
        | some (.slice _), .arr _ _ _ k => some ⟨.p (.int .i64 k), true⟩
        | _, _ => none
      | _, _ => none
    | .builtin .max => some (.of (minV true (evs tm c.args.toList)))
    | .builtin .min => some (.of (minV false (evs tm c.args.toList)))
    | _ => none
  | _ => none

/-- What an operation needs of its operands under the guard g (pick tells its own). -/
def opK (g : Bool) (tm : Tm) : Op → Bool
  | .pick c _ _ => uk g (evo tm c)
  | .makeFunc _ _ caps => eks g tm caps.toList
  | .build _ parts => eks g tm (parts.toList.map (·.2))
  | .buildSlice _ _ parts => eks g tm (parts.toList.map (·.2))
  | .call c => eks g tm ((match c.callee with | .value f => [f] | _ => []) ++ c.args.toList)
  | op => eks g tm op.operands.toList

/-- A block that an operation makes: what it yields, given the block's number; the block. -/
structure A where
  build ::
  mk : Nat → AV
  obj : Nat → Obj
  aux : List Obj
  ok : Bool

/-- Cells, the first nil slice among them a row of the call's own. -/
def ownNil (v : AV) : List AV → Option (List AV)
  | [] => none
  | .p .nils :: r => some (v :: r)
  | x :: r => (ownNil v r).map (x :: ·)
/-- A block of cells, the first nil slice among them (where own is not 0) a row of the call's own. -/
def boxA (own : Nat) (cs : List AV) (ok : Bool) : A :=
  if own = 0 then ⟨fun id => .ref id 0, fun _ => .box cs, [], ok⟩
  else ⟨fun id => .ref id 0, fun id => .box ((ownNil (.arr (id + 1) 0 0 0) cs).getD cs), [.arr 0 own false []], ok⟩

def zeroElem (i : TI) : PV := match isAggD i.desc, i.zero with
  | true, z => .agg z
  | false, [x] => x
  | _, _ => .nils

def fillE (sz : Nat) : List PV → List (Nat × AV) → Option (List PV)
  | es, [] => some es
  | es, (j, v) :: r => v.toP.bind fun x => if j < es.length ∧ v.cells.length = sz ∧ v.cells.all AV.one = true then fillE sz (es.set j x) r else none

def isNilS : Operand → Bool
  | .const (.slice none 0 0) => true
  | _ => false

/-- The elements that a slice shows. -/
def pic (h : Hp) : AV → Option (List PV)
  | .p (.sl l) => some l
  | .p .nils => some []
  | .arr id g off len => match h.at id with
    | .arr g' _ _ es => if g = g' ∧ off + len ≤ es.length then some ((es.drop off).take len) else none
    | _ => none
  | _ => none

/-- What an operation that makes a block makes. -/
def opA (T : Tab) (own : Nat) (h : Hp) (tm : Tm) (op : Op) : Option A :=
  let u := fun x => uv (evo tm x)
  match op with
  | .assign x => if own ≠ 0 ∧ isNilS x = true then some ⟨fun id => .arr id 0 0 0, fun _ => .arr 0 own false [], [], true⟩ else none
  | .alloc t => (T.info t).map fun i => boxA own (i.zero.map .p) true
  | .box t x => (T.info t).map fun i => boxA own (u x).cells (decide ((u x).cells.length = i.size ∧ (u x).cells.all AV.one = true))
  | .build t parts => if own = 0 then none else
      match (buildV T t (parts.toList.map fun (i, x) => (i, u x))).v with
      | .agg cs => some ⟨fun id => .agg ((ownNil (.arr id 0 0 0) cs).getD cs), fun _ => .arr 0 own false [], [], (buildV T t (parts.toList.map fun (i, x) => (i, u x))).ok⟩
      | _ => none
  | .buildSlice t len parts => (elemOf T t).bind fun e => (fillE e.size (List.replicate len (zeroElem e)) (parts.toList.map fun (i, x) => (i, u x))).map fun es =>
      ⟨fun id => .arr id 0 0 len, fun _ => .arr 0 e.size false es, [], decide (0 < e.size ∧ len * e.size ≤ 16777216 ∧ (zeroElem e).cells.length = e.size)⟩
  | .makeSlice t l c => match u l, u c with
    | .p (.int _ n), .p (.int _ m) => (elemOf T t).map fun e =>
        ⟨fun id => .arr id 0 0 n.toNat, fun _ => .arr 0 e.size false (List.replicate n.toNat (zeroElem e)), [], decide (0 < e.size ∧ 0 ≤ n ∧ n ≤ m ∧ m ≤ 1099511627776 ∧ e.bytes * m ≤ 1099511627776 ∧ (zeroElem e).cells.length = e.size)⟩
    | _, _ => none
  | .makeMap _ none => some ⟨fun id => .map id, fun _ => .map [], [], true⟩
  | .call c => match c.callee with
    | .builtin .append => match c.args.toList, c.argTypes.toList with
      | [s, x], [t, t'] => match u s, elemOf T t, elemOf T t' with
        | .p .nils, some e, some _ => (pic h (u x)).map fun xs =>
            ⟨fun id => .arr id 0 0 xs.length, fun _ => .arr 0 e.size false xs, [], decide (0 < e.size ∧ xs.length * e.bytes ≤ 1099511627776 ∧ xs.length ≤ 1099511627776 ∧ ∀ y ∈ xs, y.cells.length = e.size)⟩
        | _, _, _ => none
      | _, _ => none
    | _ => none
  | _ => none

-- ---------------------------------------------------------------- operations that write
def spliceP (cs : List PV) (off : Nat) (vs : List PV) : List PV := cs.take off ++ vs ++ cs.drop (off + vs.length)

def PV.setCells (x : PV) (off : Nat) (vs : List PV) : Option PV :=
  match x with
  | .agg cs => if off + vs.length ≤ cs.length then some (.agg (spliceP cs off vs)) else none
  | _ => match off, vs with
    | 0, [y] => some y
    | _, _ => none

def storeW (T : Tab) (h : Hp) (t : Nat) (a v : AV) : Option Hp :=
  match T.info t with
  | none => none
  | some i => if v.cells.length = i.size ∧ v.cells.all AV.one = true then
    match a with
    | .ref id off => match h.at id with
      | .box cs => if off + i.size ≤ cs.length then some (h.set id (.box (splice cs off v.cells))) else none
      | _ => none
    | .elt id g j off => match h.at id, toPs v.cells with
      | .arr g' sz false es, some ps => if g = g' ∧ j < es.length then (es[j]?).bind fun x => (x.setCells off ps).map fun y => h.set id (.arr g' sz false (es.set j y)) else none
      | _, _ => none
    | _ => none
  else none

def opW (T : Tab) (h : Hp) (tm : Tm) (op : Op) : Option (Hp × AV) :=
  let u := fun x => uv (evo tm x)
  match op with
  | .store t a v => (storeW T h t (u a) (u v)).map fun h' => (h', .undef)
  | .mapUpdate t mp k v => match u mp, u k, u v, mapDesc T t with
    | .map id, .p k, .p v, some (kd, _) => match h.at id with
      | .map es => if keyOk kd k ∧ keysOk kd es ∧ (AV.p v).one then (mput k v es).map fun es' => (h.set id (.map es'), .undef) else none
      | _ => none
    | _, _, _, _ => none
  | .call c => match c.callee with
    | .builtin .delete => match evs tm c.args.toList, c.argTypes.toList with
      | [.map id, .p k], t :: _ => match h.at id, mapDesc T t with
        | .map es, some (kd, _) => if keyOk kd k ∧ keysOk kd es then (mdel k es).map fun es' => (h.set id (.map es'), .tup []) else none
        | _, _ => none
      | _, _ => none
    | .builtin .append => match evs tm c.args.toList, c.argTypes.toList with
      | [.arr id g off len, x], [t, t'] => match h.at id, elemOf T t, elemOf T t', pic h x with
        | .arr g' sz sh es, some e, some _, some xs =>
          if g = g' ∧ 0 < sz ∧ sz = e.size ∧ (len + xs.length) * e.bytes ≤ 1099511627776 ∧ len + xs.length ≤ 1099511627776 ∧ (∀ y ∈ xs, y.cells.length = e.size) then
            if off + len = es.length then (if off = 0 ∧ xs.length = 0 then some (h, .arr id g off len) else some (h.set id (.arr (g + xs.length + (if off = 0 then 0 else 1)) sz sh (es.drop off ++ xs)), .arr id (g + xs.length + (if off = 0 then 0 else 1)) 0 (len + xs.length)))
            else if off + len + xs.length ≤ es.length ∧ sh = false then some (h.set id (.arr g sz sh (es.take (off + len) ++ xs ++ es.drop (off + len + xs.length))), .arr id g off (len + xs.length))
            else none
          else none
        | _, _, _, _ => none
      | _, _ => none
    | _ => none
  | _ => none

-- ---------------------------------------------------------------- calls
/-- What a callee hands over, by the caller's numbers of blocks. -/
def shiftV (k : Nat) : AV → AV
  | .arr id g off len => .arr (id + k) g off len
  | .p x => .p x
  | _ => .undef

def snap1 (h : Hp) (v : AV) : AV :=
  match v with
  | .arr _ _ _ _ => match pic h v with
    | some l => .p (.sl l)
    | none => .undef
  | x => x
def snap (h : Hp) : AV → AV
  | .agg cs => .agg (cs.map (snap1 h))
  | x => snap1 h x
def arrIds : AV → List Nat
  | .arr id _ _ _ => [id]
  | .agg cs => cs.flatMap fun | .arr id _ _ _ => [id] | _ => []
  | _ => []
def scalar1 : AV → Bool
  | .p (.int _ _) => true
  | .p (.bool _) => true
  | .p (.str _) => true
  | .p .nils => true
  | _ => false
def scalar : AV → Bool
  | .agg cs => cs.all scalar1
  | .tup vs => vs.all fun | .agg cs => cs.all scalar1 | x => scalar1 x
  | x => scalar1 x
def markS : Obj → Obj
  | .arr g sz _ es => .arr g sz true es
  | o => o
def shareFrom (ids : List Nat) : Nat → Hp → Hp
  | _, [] => []
  | i, o :: r => (if ids.contains i = true then markS o else o) :: shareFrom ids (i + 1) r
/-- Rows that are shown to others from now on. -/
def share (h : Hp) (ids : List Nat) : Hp :=
  match ids with
  | [] => h
  | ids => shareFrom ids 0 h

def isArrO : Obj → Bool
  | .arr _ _ _ _ => true
  | _ => false

abbrev CallF := Nat → List AV → Hp → Option (AV × Hp)

abbrev YieldF := Nat → List AV → Hp → Option (Bool × Hp)

def calleeOf (tm : Tm) (x : Operand) : Option (Nat × List AV) :=
  match uv (evo tm x) with
  | .p (.fn f cs) => some (f, cs.map .p)
  | .fn f cs => some (f, cs)
  | _ => none
def yieldOf (tm : Tm) (x : Operand) : Option Nat :=
  match uv (evo tm x) with
  | .yl id => some id
  | _ => none

-- ---------------------------------------------------------------- one operation
structure X where
  T : Tab
  call : CallF
  yield : YieldF
  f : Nat
  nt : Nat
  fuel : Nat
  /-- in a round of a range over a function -/
  rnd : Bool

/-- The guard of an operation: none, or whether it is carried out. -/
def guardOf (ops : List Oper) (tm : Tm) : Option (Nat × Bool) → Option (Option Bool)
  | none => some none
  | some (j, want) => match (ops[j]?).bind (·.dst) with
    | none => none
    | some d => match look tm d with
      | .p (.bool b) => some (some (b == want))
      | .gd c (.p (.bool b)) => some (some (c && b == want))
      | _ => none

def mkg : Option Bool → AV → AV
  | none, v => v
  | some g, v => .gd g v

def dstOk (nt : Nat) : Option Nat → Bool
  | none => true
  | some d => decide (d < nt)

/-- The arguments as a callee is shown them; the rows that it is shown. -/
def bsOf (mu : Bool) (rd : Hp) (as : List AV) : List AV := if mu = true then as else as.map (snap rd)
def idsOf (mu : Bool) (as : List AV) : List Nat := if mu = true then [] else as.flatMap arrIds

/-- A call, under the guard g. rd: memory as it is read; free: it may come up in any order among others, so it must leave what stands as it stands. -/
def evCall (x : X) (rd : Hp) (free : Bool) (g : Option Bool) (dst : Option Nat) (s : St) (f : Nat) (as : List AV) : Option St :=
  let gb := g.getD true
  let bs := bsOf (x.T.muts f) rd as
  let ids := idsOf (x.T.muts f) as
  if (toPs (bs.flatMap AV.cells)).isSome = true then
    ocase (x.call f bs []) (fun r =>
        if r.2.length = 0 then
          if scalar r.1 = true ∨ x.T.fresh f = true then some ⟨putO s.tm dst (mkg g r.1), s.hp⟩
          else if gb = true then
            if free = true ∧ ids ≠ [] then none
            else some ⟨putO s.tm dst (mkg g r.1), share s.hp ids⟩
          else some ⟨putO s.tm dst (.gd false .undef), s.hp⟩
        else if gb = true then
          if free = false ∧ r.2.all isArrO = true then some ⟨putO s.tm dst (mkg g (shiftV s.hp.length r.1)), share s.hp ids ++ r.2⟩ else none
        else some ⟨putO s.tm dst (.gd false .undef), s.hp⟩)
      (fun _ => if gb = true then none else some ⟨putO s.tm dst (.gd false .undef), s.hp⟩)
  else if gb = true then
    if free = true then none else obind (x.call f bs (share s.hp ids)) fun r => some ⟨putO s.tm dst (mkg g r.1), r.2⟩
  else some ⟨putO s.tm dst (.gd false .undef), s.hp⟩

def calleeFn : Op → Option (Operand × List Operand)
  | .call c => match c.callee with
    | .value f => some (f, c.args.toList)
    | _ => none
  | _ => none

def ownD (T : Tab) (f : Nat) (dst : Option Nat) : Nat :=
  match dst with
  | some d => T.own f d
  | none => 0

/-- A call of a loop's yield, under the guard g. -/
def evYield (x : X) (free : Bool) (g : Option Bool) (dst : Option Nat) (s : St) (id : Nat) (as : List AV) : Option St :=
  if g.getD true = true then
    if free = true then none else obind (x.yield id as s.hp) fun r => some ⟨putO s.tm dst (mkg g (.p (.bool r.1))), r.2⟩
  else some ⟨putO s.tm dst (.gd false .undef), s.hp⟩

/-- One operation. -/
def evOp (x : X) (rd : Hp) (free : Bool) (g : Option Bool) (o : Oper) (s : St) : Option St :=
  obind (chk (dstOk x.nt o.dst)) fun _ =>
  ocase (opA x.T (ownD x.T x.f o.dst) rd s.tm o.op)
    (fun a => obind (chk (!g.getD true || (a.ok && opK (g.getD true) s.tm o.op))) fun _ => some ⟨putO s.tm o.dst (mkg g (a.mk s.hp.length)), s.hp ++ a.obj s.hp.length :: a.aux⟩) fun _ =>
  ocase (opV x.T rd s.tm o.op)
    (fun r => obind (chk (!g.getD true || (r.ok && opK (g.getD true) s.tm o.op))) fun _ => some ⟨putO s.tm o.dst (mkg g r.v), s.hp⟩) fun _ =>
  obind (chk (!g.getD true || opK (g.getD true) s.tm o.op)) fun _ =>
  ocase (calleeFn o.op)
    (fun c => ocase (yieldOf s.tm c.1) (fun id => evYield x free g o.dst s id (evs s.tm c.2)) fun _ =>
      obind (calleeOf s.tm c.1) fun fc => evCall x rd free g o.dst s fc.1 (evs s.tm c.2 ++ fc.2)) fun _ =>
  if g.getD true = true then
    if free = true then none else obind (opW x.T s.hp s.tm o.op) fun r => some ⟨putO s.tm o.dst (mkg g r.2), r.1⟩
  else some ⟨putO s.tm o.dst (.gd false .undef), s.hp⟩

-- ---------------------------------------------------------------- regions
def bindsAny (e : Edge) : Bool :=
  match e.ground with
  | .textOnly _ => false
  | .gcOnly _ => false
  | _ => true

def befores (acc : List (List Nat)) (o : Oper) : List Nat := (o.after.toList.filter bindsAny).flatMap fun e => e.on :: (acc[e.on]?).getD []
/-- What must come before each operation, through others too. -/
def ancsFrom (acc : List (List Nat)) : List Oper → List (List Nat)
  | [] => acc
  | o :: r => ancsFrom (acc ++ [befores acc o]) r
def ancs (ops : List Oper) : List (List Nat) := ancsFrom [] ops

def guardSlot (ops : List Oper) (o : Oper) : List Nat :=
  match o.guard with
  | none => []
  | some (j, _) => ((ops[j]?).bind (·.dst)).toList

def slotsOf (l : List Operand) : List Nat := l.filterMap fun | .tmp t => some t | _ => none

def readsOf (ops : List Oper) (o : Oper) : List Nat := slotsOf o.op.operands.toList ++ guardSlot ops o

/-- i and j, neither of which must come first, do not touch each other's variables. -/
def apartB (ops : List Oper) (a b : Oper) : Bool :=
  (match a.dst with
   | none => true
   | some d => !(readsOf ops b).contains d && (b.dst != some d)) &&
  (match b.dst with
   | none => true
   | some d => !(readsOf ops a).contains d)

def isSeq (an : List (List Nat)) (n j : Nat) : Bool :=
  (List.range n).all fun i => if i < j then ((an[j]?).getD []).contains i else if j < i then ((an[i]?).getD []).contains j else true

def apartAll : List Nat → Bool
  | [] => true
  | d :: r => !r.contains d && apartAll r

/-- A region that draws may be gone through in the order of its text; the operations sq stand between all others. -/
def drawOk (ops : List Oper) (sq : List Nat) (lt : Option (Nat × Nat × List Nat)) : Bool :=
  let an := ancs ops
  (match lt with | none => true | some (k, _, l) => l.all fun i => ((an[k]?).getD []).contains i) && (apartAll (ops.filterMap (·.dst)) && sq.all (isSeq an ops.length)) && (List.range ops.length).all fun j => match ops[j]? with
    | none => false
    | some b =>
      ((b.after.toList.filter bindsAny).all fun e => decide (e.on < j)) &&
      (List.range j).all fun i => match ops[i]? with
        | none => false
        | some a => ((an[j]?).getD []).contains i || apartB ops a b

/-- All regions of a function's code may be gone through in the order of their text. -/
def bodyOk (T : Tab) (f : Nat) : Code → Bool
  | .region id ops draw => !draw || drawOk ops.toList (T.seqs f id) (T.late f id)
  | .seq a b => bodyOk T f a && bodyOk T f b
  | .cond _ a b => bodyOk T f a && bodyOk T f b
  | .block _ c => bodyOk T f c
  | .loop c => bodyOk T f c
  | .rangeFunc _ _ a b => bodyOk T f a && bodyOk T f b
  | _ => true

/-- The ranges over functions in a function's code are as the table tells. -/
def loopsOk (T : Tab) (f : Nat) : Code → Nat → Prop
  | .seq a b, _ => loopsOk T f a 0 ∧ loopsOk T f b 0
  | .cond _ a b, _ => loopsOk T f a 0 ∧ loopsOk T f b 0
  | .block id c, _ => loopsOk T f c id
  | .loop c, _ => loopsOk T f c 0
  | .rangeFunc _ ps a b, id => T.loops f id = some (ps.toList, a, b) ∧ loopsOk T f a 0 ∧ loopsOk T f b 0
  | _, _ => True

def evSeq (x : X) (ops : List Oper) : List Oper → St → Option St
  | [], s => some s
  | o :: r, s => obind (guardOf ops s.tm o.guard) fun g => obind (evOp x s.hp false g o s) fun s' => evSeq x ops r s'

/-- The block that a write is to. -/
def lateId (tm : Tm) (op : Op) : Option Nat :=
  match op with
  | .store _ a _ => match uv (evo tm a) with
    | .ref id _ => some id
    | .elt id _ _ _ => some id
    | _ => none
  | .call c => match c.callee with
    | .builtin .append => match evs tm c.args.toList with
      | [.arr id _ _ _, _] => some id
      | _ => none
    | _ => none
  | _ => none
/-- A late write: the memory that an operation may look at. -/
def lateRd (lt : Option (Nat × Nat × List Nat)) (j : Nat) (rd : Hp) : Hp :=
  match lt with
  | none => rd
  | some (_, wid, an) => if an.contains j = true then rd else rd.set wid .dead
/-- No operation but those that come before a late write makes the block that it writes. -/
def lateMk (lt : Option (Nat × Nat × List Nat)) (j a b : Nat) : Bool :=
  match lt with
  | none => true
  | some (_, wid, an) => an.contains j || decide (wid < a ∨ b ≤ wid)
def isLate (lt : Option (Nat × Nat × List Nat)) (j : Nat) : Option Nat :=
  match lt with
  | none => none
  | some (k, wid, _) => if j = k then some wid else none
def evLate (x : X) (wid : Nat) (g : Option Bool) (o : Oper) (s : St) : Option St :=
  if lateId s.tm o.op = some wid ∧ wid < s.hp.length ∧ g.getD true = true then evOp x s.hp false g o s else none

def evFree (x : X) (ops : List Oper) (sq : List Nat) (lt : Option (Nat × Nat × List Nat)) : List Oper → Nat → Hp → St → Option St
  | [], _, _, s => some s
  | o :: r, j, rd, s => obind (guardOf ops s.tm o.guard) fun g =>
    if sq.contains j = true then obind (evOp x s.hp false g o s) fun s' => evFree x ops sq lt r (j + 1) s'.hp s'
    else ocase (isLate lt j) (fun wid => obind (evLate x wid g o s) fun s' => evFree x ops sq lt r (j + 1) rd s')
      fun _ => obind (evOp x (lateRd lt j rd) true g o s) fun s' => obind (chk (lateMk lt j s.hp.length s'.hp.length)) fun _ => evFree x ops sq lt r (j + 1) rd s'

def evReg (x : X) (id : Nat) (ops : List Oper) (draw : Bool) (s : St) : Option St :=
  if draw = true then evFree x ops (x.T.seqs x.f id) (x.T.late x.f id) ops 0 s.hp s else evSeq x ops ops s

-- ---------------------------------------------------------------- code
/-- Names a value no block from number m on? -/
def below1 (m : Nat) : AV → Bool
  | .p _ => true
  | .ref id _ => decide (id < m)
  | .arr id _ _ _ => decide (id < m)
  | .elt id _ _ _ => decide (id < m)
  | .yl id => decide (id < m)
  | .map id => decide (id < m)
  | _ => false
def below2 (m : Nat) : AV → Bool
  | .agg cs => cs.all (below1 m)
  | .fn _ cs => cs.all (below1 m)
  | v => below1 m v
def below (m : Nat) : AV → Bool
  | .tup vs => vs.all (below2 m)
  | .gd _ v => below1 m v
  | v => below2 m v
/-- A block that stays when all from number m on go. -/
def lowO (m : Nat) : Obj → Obj
  | .box cs => if cs.all (below2 m) = true then .box cs else .dead
  | o => o

def keepV (m : Nat) (v : AV) : AV := if below m v then v else .undef
def norm (ks : List Nat) (m : Nat) (s : St) : St := ⟨ks.map fun k => (k, keepV m (look s.tm k)), (s.hp.take m).map (lowO m)⟩

/-- What comes behind a piece of code that ended as it should. -/
def seqk (r : Option (Ex × St)) (k : St → Option (Ex × St)) : Option (Ex × St) :=
  match r with
  | none => none
  | some (.nor, s) => k s
  | some (.exit id, s) => some (.exit id, s)
  | some (.ret, s) => some (.ret, s)
theorem seqk_none (k : St → Option (Ex × St)) : seqk none k = none := rfl
theorem seqk_nor (s : St) (k : St → Option (Ex × St)) : seqk (some (.nor, s)) k = k s := rfl
theorem seqk_exit (i : Nat) (s : St) (k : St → Option (Ex × St)) : seqk (some (.exit i, s)) k = some (.exit i, s) := rfl
theorem seqk_ret (s : St) (k : St → Option (Ex × St)) : seqk (some (.ret, s)) k = some (.ret, s) := rfl
theorem seqk_ite (c : Prop) [Decidable c] (a b : Option (Ex × St)) (k : St → Option (Ex × St)) : seqk (if c then a else b) k = if c then seqk a k else seqk b k := by split <;> rfl
theorem seqk_congr {a a' : Option (Ex × St)} {k : St → Option (Ex × St)} (h : a = a') : seqk a k = seqk a' k := by rw [h]

/-- A block's own exit is its end. -/
def blockk (id : Nat) (r : Option (Ex × St)) : Option (Ex × St) :=
  match r with
  | some (.exit id', s) => if id' = id then some (.nor, s) else some (.exit id', s)
  | r => r
theorem blockk_none (id : Nat) : blockk id none = none := rfl
theorem blockk_nor (id : Nat) (s : St) : blockk id (some (.nor, s)) = some (.nor, s) := rfl
theorem blockk_ret (id : Nat) (s : St) : blockk id (some (.ret, s)) = some (.ret, s) := rfl
theorem blockk_exit (id id' : Nat) (s : St) : blockk id (some (.exit id', s)) = if id' = id then some (.nor, s) else some (.exit id', s) := rfl
theorem blockk_ite (id : Nat) (c : Prop) [Decidable c] (a b : Option (Ex × St)) : blockk id (if c then a else b) = if c then blockk id a else blockk id b := by split <;> rfl

/-- A loop's round, and what comes behind it. -/
def roundk (ks : List Nat) (m : Nat) (r : Option (Ex × St)) (k : St → Option (Ex × St)) : Option (Ex × St) :=
  match r with
  | none => none
  | some (.nor, s) => k s
  | some (.exit id, s) => some (.exit id, norm ks m s)
  | some (.ret, s) => some (.ret, norm ks m s)
theorem roundk_none (ks : List Nat) (m : Nat) (k : St → Option (Ex × St)) : roundk ks m none k = none := rfl
theorem roundk_nor (ks : List Nat) (m : Nat) (s : St) (k : St → Option (Ex × St)) : roundk ks m (some (.nor, s)) k = k s := rfl
theorem roundk_exit (ks : List Nat) (m : Nat) (i : Nat) (s : St) (k : St → Option (Ex × St)) : roundk ks m (some (.exit i, s)) k = some (.exit i, norm ks m s) := rfl
theorem roundk_ret (ks : List Nat) (m : Nat) (s : St) (k : St → Option (Ex × St)) : roundk ks m (some (.ret, s)) k = some (.ret, norm ks m s) := rfl
theorem roundk_ite (ks : List Nat) (m : Nat) (c : Prop) [Decidable c] (a b : Option (Ex × St)) (k : St → Option (Ex × St)) : roundk ks m (if c then a else b) k = if c then roundk ks m a k else roundk ks m b k := by split <;> rfl
theorem roundk_congr {ks : List Nat} {m : Nat} {a a' : Option (Ex × St)} {k : St → Option (Ex × St)} (h : a = a') : roundk ks m a k = roundk ks m a' k := by rw [h]

def iter (body : St → Option (Ex × St)) (ks : List Nat) (m : Nat) : Nat → St → Option (Ex × St)
  | 0, _ => none
  | n + 1, s => roundk ks m (body (norm ks m s)) fun s' => iter body ks m n s'

/-- What comes behind a range over a function. -/
def rangek (s : St) (o : Obj) (h : Hp) : Option (Ex × St) :=
  match o with
  | .loop .ready _ _ _ => some (.nor, ⟨s.tm, h⟩)
  | .loop (.done e) _ _ _ => some (e, ⟨s.tm, h⟩)
  | _ => none

def evc (x : X) : Code → Nat → St → Option (Ex × St)
  | .skip, _, s => some (.nor, s)
  | .label _, _, s => some (.nor, s)
  | .region id ops draw, _, s => obind (evReg x id ops.toList draw s) fun s' => some (.nor, s')
  | .seq a b, _, s => seqk (evc x a 0 s) fun s' => evc x b 0 s'
  | .cond c a b, _, s => match evo s.tm c with
    | .p (.bool t) => if t = true then evc x a 0 s else evc x b 0 s
    | _ => none
  | .block id c, _, s => blockk id (evc x c id s)
  | .loop c, id, s => iter (evc x c 0) (x.T.keep x.f id) s.hp.length x.fuel s
  | .exit id, _, s => some (.exit id, s)
  | .ret, _, s => some (.ret, s)
  | .rangeFunc g _ _ _, id, s => if x.rnd = false ∧ uk true (evo s.tm g) = true then obind (calleeOf s.tm g) fun fc =>
      obind (x.call fc.1 (bsOf (x.T.muts fc.1) s.hp (.yl s.hp.length :: fc.2)) (share s.hp (idsOf (x.T.muts fc.1) fc.2) ++ [.loop .ready x.f id s.tm])) fun r =>
        rangek s (r.2.at s.hp.length) (r.2.set s.hp.length .dead)
    else none
  | _, _, _ => none

-- ---------------------------------------------------------------- functions
def mapO (f : AV → Option AV) : List AV → Option (List AV)
  | [] => some []
  | x :: r => obind (f x) fun y => obind (mapO f r) fun l => some (y :: l)

/-- A result as it is handed out: blocks from number m on are no one's any more. -/
def freeze (h : Hp) (m : Nat) : Nat → AV → Option AV
  | 0, _ => none
  | _ + 1, .p x => some (.p x)
  | _ + 1, .arr id g off len => if id < m then some (.arr id g off len) else (pic h (.arr id g off len)).map fun l => .p (.sl l)
  | n + 1, .ref id off => if id < m then some (.ref id off) else match h.at id with
    | .box cs => obind (mapO (freeze h m n) cs) fun l => (toPs l).map fun ps => .p (.ptr ps off)
    | _ => none
  | n + 1, .fn f cs => obind (mapO (freeze h m n) cs) fun l => match toPs l with
    | some ps => some (.p (.fn f ps))
    | none => some (.fn f l)
  | n + 1, .agg cs => obind (mapO (freeze h m n) cs) fun l => some (.agg l)
  | _ + 1, .map id => if id < m then some (.map id) else none
  | _ + 1, _ => none

def outs (T : Tab) (h : Hp) (tm : Tm) : List ResultVar → Option (List AV)
  | [] => some []
  | .tmp t :: r => obind (outs T h tm r) fun l => some (look tm t :: l)
  | .cell a t :: r => if (loadV T h t (look tm a)).ok = true then obind (outs T h tm r) fun l => some ((loadV T h t (look tm a)).v :: l) else none

def one1 : List AV → AV
  | [v] => v
  | vs => .tup vs

def scalarP : PV → Bool
  | .int _ _ => true
  | .bool _ => true
  | .str _ => true
  | .nils => true
  | _ => false
/-- A scalar, or a row of the function's own of scalars. -/
def freshV (h : Hp) (m : Nat) (v : AV) : Bool :=
  scalar1 v || match v with
    | .arr id _ _ _ => decide (m ≤ id) && match h.at id with
      | .arr _ _ _ es => es.all fun y => y.cells.all scalarP
      | _ => false
    | _ => false

def retV (x : X) (m : Nat) (fn : Func) (s : St) : Option (AV × Hp) :=
  obind (outs x.T s.hp s.tm fn.results.toList) fun vs =>
  obind (chk (!x.T.fresh x.f || vs.all (freshV s.hp m))) fun _ =>
  if x.T.gives x.f = true then (if m ≤ s.hp.length ∧ x.T.fresh x.f = false then some (one1 vs, s.hp) else none)
  else obind (mapO (freeze s.hp m 5) vs) fun vs =>
    if vs.all (below2 m) = true ∧ m ≤ s.hp.length then some (one1 vs, (s.hp.take m).map (lowO m)) else none

def numbered : List AV → Nat → Tm
  | [], _ => []
  | v :: r, i => (i, v) :: numbered r (i + 1)

def endk (r : Option (Ex × St)) (k : St → Option (AV × Hp)) : Option (AV × Hp) :=
  match r with
  | some (.nor, s) => k s
  | some (.ret, s) => k s
  | _ => none
theorem endk_none (k : St → Option (AV × Hp)) : endk none k = none := rfl
theorem endk_nor (s : St) (k : St → Option (AV × Hp)) : endk (some (.nor, s)) k = k s := rfl
theorem endk_ret (s : St) (k : St → Option (AV × Hp)) : endk (some (.ret, s)) k = k s := rfl
theorem endk_exit (i : Nat) (s : St) (k : St → Option (AV × Hp)) : endk (some (.exit i, s)) k = none := rfl
theorem endk_ite (c : Prop) [Decidable c] (a b : Option (Ex × St)) (k : St → Option (AV × Hp)) : endk (if c then a else b) k = if c then endk a k else endk b k := by split <;> rfl
theorem endk_congr {a a' : Option (Ex × St)} {k : St → Option (AV × Hp)} (h : a = a') : endk a k = endk a' k := by rw [h]

/-- The arguments of a round, in the variables that it sets. -/
def putAll (tm : Tm) : List Nat → List AV → Tm
  | p :: ps, v :: vs => putAll (put tm p v) ps vs
  | _, _ => tm

/-- A round's end: how the body was left; what yield hands back. -/
def roundEnd (id : Nat) (e : Ex) (h : Hp) : Option (Bool × Hp) :=
  match h.at id with
  | .loop .busy f lid tm => match e with
    | .nor => some (true, h.set id (.loop .ready f lid tm))
    | e => some (false, h.set id (.loop (.done e) f lid tm))
  | _ => none

/-- The assignments to a round's left sides are done: the body is begun. -/
def roundBegin (id : Nat) (h : Hp) : Option Hp :=
  match h.at id with
  | .loop .ready f lid tm => some (h.set id (.loop .busy f lid tm))
  | _ => none

def askk (r : Option (Ex × St)) (k : Ex → St → Option (Bool × Hp)) : Option (Bool × Hp) :=
  match r with
  | none => none
  | some (e, s) => k e s
theorem askk_none (k : Ex → St → Option (Bool × Hp)) : askk none k = none := rfl
theorem askk_some (e : Ex) (s : St) (k : Ex → St → Option (Bool × Hp)) : askk (some (e, s)) k = k e s := rfl
theorem askk_ite (c : Prop) [Decidable c] (a b : Option (Ex × St)) (k : Ex → St → Option (Bool × Hp)) : askk (if c then a else b) k = if c then askk a k else askk b k := by split <;> rfl
theorem askk_congr {a a' : Option (Ex × St)} {k : Ex → St → Option (Bool × Hp)} (h : a = a') : askk a k = askk a' k := by rw [h]

/-- One round of a range over a function. -/
def round (x : X) (id : Nat) (as : List AV) (h : Hp) (tm : Tm) (l : List Nat × Code × Code) : Option (Bool × Hp) :=
  if as.length = l.1.length ∧ l.1.all (fun p => decide (p < x.nt)) = true then
    askk (evc x l.2.1 0 ⟨putAll tm l.1 as, h⟩) fun e s =>
      match e with
      | .nor => obind (roundBegin id s.hp) fun h2 => askk (evc x l.2.2 0 ⟨s.tm, h2⟩) fun e s2 => if h.length ≤ s2.hp.length then roundEnd id e s2.hp else none
      | _ => none
  else none

def yieldF (T : Tab) (fs : Nat → Option Func) (call : CallF) (yield : YieldF) (fuel : Nat) : YieldF := fun id as h =>
  match h.at id with
  | .loop .ready f lid tm => obind (T.loops f lid) fun l => obind (fs f) fun fn => round ⟨T, call, yield, f, fn.ntmps, fuel, true⟩ id as h tm l
  | _ => none

def enter (T : Tab) (call : CallF) (yield : YieldF) (fuel : Nat) (f : Nat) (fn : Func) (args : List AV) (h : Hp) : Option (AV × Hp) :=
  match fn.body with
  | none => none
  | some c =>
    if args.length ≤ fn.ntmps then
      endk (evc ⟨T, call, yield, f, fn.ntmps, fuel, false⟩ c 0 ⟨numbered args 0, h⟩) (retV ⟨T, call, yield, f, fn.ntmps, fuel, false⟩ h.length fn)
    else none

/-- What calls and yields come to, n calls deep: `over` tells it for some. -/
def sys (T : Tab) (fs : Nat → Option Func) (over : CallF) : Nat → CallF × YieldF
  | 0 => (fun _ _ _ => none, fun _ _ _ => none)
  | n + 1 => (fun f args h => ocase (over f args h) some fun _ => obind (fs f) fun fn => enter T (sys T fs over n).1 (sys T fs over n).2 n f fn args h,
      yieldF T fs (sys T fs over n).1 (sys T fs over n).2 n)

def run (T : Tab) (fs : Nat → Option Func) (over : CallF) (n : Nat) : CallF := (sys T fs over n).1

end Go.En
namespace Go.En
open Go.RowKit

def flat (es : List PV) : List PV := es.flatMap PV.cells

/-- What a block of the call's own is in memory. -/
inductive Cn where
  | none
  | box (B : Nat)
  | arr (g B o cap sz : Nat)
  | nil (g : Nat)
  | map (r : Nat)
  | loop (r b : Nat)

def Cn.blk : Cn → Option Nat
  | .box B => some B
  | .arr _ B _ _ _ => some B
  | .map r => some r
  | .loop r _ => some r
  | _ => Option.none
def Cn.gen : Cn → Option Nat
  | .arr g _ _ _ _ => some g
  | .nil g => some g
  | _ => Option.none

/-- A pure value stands for a value of the machine: M is the memory that nobody writes any more. -/
inductive PRep (M : Addr → Option Value) : PV → Value → Prop
  | int (k : IntKind) (n : Int) : PRep M (.int k n) (.int k n)
  | bool (b : Bool) : PRep M (.bool b) (.bool b)
  | str (s : ByteArray) : PRep M (.str s) (.string s)
  | agg (cs : List PV) (vs : Array Value) : vs.size = cs.length → (∀ k, k < cs.length → PRep M (cs.getD k .nils) (vs.getD k undef)) → PRep M (.agg cs) (.agg vs)
  | nils : PRep M .nils (.slice none 0 0)
  | sl0 : PRep M (.sl []) (.slice none 0 0)
  | slE (a : Addr) (cap : Nat) : PRep M (.sl []) (.slice (some a) 0 cap)
  | sl (es : List PV) (B o cap sz : Nat) (f : Nat → Value) : es.length ≤ cap → (∀ x ∈ es, x.cells.length = sz) →
      (∀ k, k < (flat es).length → M ⟨B, o + k, none⟩ = some (f k) ∧ (f k).oneCell' = true) → (∀ k, k < (flat es).length → PRep M ((flat es).getD k .nils) (f k)) →
      PRep M (.sl es) (.slice (some ⟨B, o, none⟩) es.length cap)
  | ptr (cs : List PV) (off B o : Nat) (f : Nat → Value) : (∀ k, k < cs.length → M ⟨B, o + k, none⟩ = some (f k) ∧ (f k).oneCell' = true) → (∀ k, k < cs.length → PRep M (cs.getD k .nils) (f k)) →
      PRep M (.ptr cs off) (.pointer (some ⟨B, o + off, none⟩))
  | nilp : PRep M .nilp (.pointer none)
  | fn (f : Nat) (cs : List PV) (vs : Array Value) : vs.size = cs.length → (∀ k, k < cs.length → PRep M (cs.getD k .nils) (vs.getD k undef)) → PRep M (.fn f cs) (.func (.func f) #[] vs)
  | nilf : PRep M .nilf .nilFunc
  | ifc (t : Nat) (x : PV) (v : Value) : PRep M x v → PRep M (.ifc t x) (.iface t v)
  | nili : PRep M .nili .nilIface
  | nilm : PRep M .nilm (.map none)

/-- What the ranges over functions in the functions are, and how many variables the functions have. -/
structure LoopTab where
  code : Nat → Nat → Option (List Nat × Code × Code)
  nt : Nat → Option Nat

structure Cx where
  M : Addr → Option Value
  μ : Nat → Cn
  /-- blocks that nobody writes, whole -/
  K : Nat → Option Go.Obj
  L : LoopTab

inductive ARep (C : Cx) (n : Nat) : AV → Value → Prop
  | p (x : PV) (v : Value) : PRep C.M x v → ARep C n (.p x) v
  | agg (cs : List AV) (vs : Array Value) : vs.size = cs.length → (∀ k, k < cs.length → ARep C n (cs.getD k .undef) (vs.getD k undef)) → ARep C n (.agg cs) (.agg vs)
  | ref (id off B : Nat) : id < n → C.μ id = .box B → ARep C n (.ref id off) (.pointer (some ⟨B, off, none⟩))
  | arr (id g off len B o cap sz a : Nat) : id < n → C.μ id = .arr g B o cap sz → off + len ≤ cap → (a = o + off * sz ∨ off = cap) → ARep C n (.arr id g off len) (.slice (some ⟨B, a, none⟩) len (cap - off))
  | arrN (id g : Nat) : id < n → C.μ id = .nil g → ARep C n (.arr id g 0 0) (.slice none 0 0)
  | arrS (id g off len g' : Nat) (a : Option Addr) (cap : Nat) : id < n → (C.μ id).gen = some g' → g < g' → ARep C n (.arr id g off len) (.slice a len cap)
  | elt (id g i off B o cap sz : Nat) : id < n → C.μ id = .arr g B o cap sz → ARep C n (.elt id g i off) (.pointer (some ⟨B, o + i * sz + off, none⟩))
  | eltS (id g i off g' B o : Nat) : id < n → (C.μ id).gen = some g' → g < g' → ARep C n (.elt id g i off) (.pointer (some ⟨B, o, none⟩))
  | fn (f : Nat) (cs : List AV) (vs : Array Value) : vs.size = cs.length → (∀ k, k < cs.length → ARep C n (cs.getD k .undef) (vs.getD k undef)) → ARep C n (.fn f cs) (.func (.func f) #[] vs)
  | map (id r : Nat) : id < n → C.μ id = .map r → ARep C n (.map id) (.map (some r))
  | yl (id r b : Nat) : id < n → C.μ id = .loop r b → ARep C n (.yl id) (.func (.yield r) #[] #[])
  | tup (vs : List AV) (xs : Array Value) : xs.size = vs.length → (∀ k, k < vs.length → ARep C n (vs.getD k .undef) (xs.getD k undef)) → ARep C n (.tup vs) (.tuple xs)
  | gdT (v : AV) (x : Value) : ARep C n v x → ARep C n (.gd true v) x
  | gdF (v : AV) : ARep C n (.gd false v) undef
  | undef (v : Value) : ARep C n .undef v

theorem PRep.mono {M M' : Addr → Option Value} (h : ∀ a v, M a = some v → M' a = some v) {x : PV} {v : Value} (r : PRep M x v) : PRep M' x v := by
  induction r with
  | int k n => exact .int k n
  | bool b => exact .bool b
  | str s => exact .str s
  | agg cs vs h1 _ ih => exact .agg cs vs h1 ih
  | nils => exact .nils
  | sl0 => exact .sl0
  | slE a cap => exact .slE a cap
  | sl es B o cap sz f h1 h2 h3 _ ih => exact .sl es B o cap sz f h1 h2 (fun k hk => ⟨h _ _ (h3 k hk).1, (h3 k hk).2⟩) ih
  | ptr cs off B o f h1 _ ih => exact .ptr cs off B o f (fun k hk => ⟨h _ _ (h1 k hk).1, (h1 k hk).2⟩) ih
  | nilp => exact .nilp
  | fn f cs vs h1 _ ih => exact .fn f cs vs h1 ih
  | nilf => exact .nilf
  | ifc t x v _ ih => exact .ifc t x v ih
  | nili => exact .nili
  | nilm => exact .nilm

/-- C' says what C says of the blocks below n, but for one row of the call's own that may have grown (all that showed it before is stale). -/
structure Ext (n : Nat) (C C' : Cx) : Prop where
  M : ∀ a v, C.M a = some v → C'.M a = some v
  K : ∀ B o, C.K B = some o → C'.K B = some o
  L : C'.L = C.L
  μ : ∀ id, id < n → C'.μ id = C.μ id ∨ (∃ g g', (C.μ id).gen = some g ∧ (C'.μ id).gen = some g' ∧ g < g') ∨ C.μ id = .none

theorem Ext.refl (n : Nat) (C : Cx) : Ext n C C := ⟨fun _ _ h => h, fun _ _ h => h, rfl, fun _ _ => .inl rfl⟩
theorem Ext.trans {n : Nat} {A B C : Cx} (h : Ext n A B) (k : Ext n B C) : Ext n A C := by
  refine ⟨fun a v e => k.M a v (h.M a v e), fun B o e => k.K B o (h.K B o e), k.L.trans h.L, fun id hid => ?_⟩
  rcases h.μ id hid with e | ⟨g, g', e1, e2, e3⟩ | e <;> rcases k.μ id hid with f | ⟨j, j', f1, f2, f3⟩ | f
  · exact .inl (f.trans e)
  · exact .inr (.inl ⟨j, j', by rw [← e]; exact f1, f2, f3⟩)
  · exact .inr (.inr (by rw [← e]; exact f))
  · exact .inr (.inl ⟨g, g', e1, by rw [f]; exact e2, e3⟩)
  · refine .inr (.inl ⟨g, j', e1, f2, ?_⟩)
    rw [e2] at f1; cases f1; omega
  · rw [f] at e2; cases e2
  · exact .inr (.inr e)
  · exact .inr (.inr e)
  · exact .inr (.inr e)
theorem Ext.le {n m : Nat} {C C' : Cx} (h : Ext n C C') (hm : m ≤ n) : Ext m C C' := ⟨h.M, h.K, h.L, fun id hid => h.μ id (by omega)⟩

theorem ARep.mono {n n' : Nat} {C C' : Cx} (h : Ext n C C') (hn : n ≤ n') {x : AV} {v : Value} (r : ARep C n x v) : ARep C' n' x v := by
  induction r with
  | p x v hr => exact .p x v (hr.mono h.M)
  | agg cs vs h1 _ ih => exact .agg cs vs h1 ih
  | ref id off B h1 h2 =>
    rcases h.μ id h1 with e | ⟨g, g', e1, e2, e3⟩ | e0
    · exact .ref id off B (by omega) (by rw [e]; exact h2)
    · rw [h2] at e1; cases e1
    · rw [e0] at h2; cases h2
  | arr id g off len B o cap sz a h1 h2 h3 h4 =>
    rcases h.μ id h1 with e | ⟨g1, g', e1, e2, e3⟩ | e0
    · exact .arr id g off len B o cap sz a (by omega) (by rw [e]; exact h2) h3 h4
    · rw [h2] at e1; simp [Cn.gen] at e1; exact .arrS id g off len g' _ _ (by omega) e2 (by omega)
    · rw [e0] at h2; cases h2
  | arrN id g h1 h2 =>
    rcases h.μ id h1 with e | ⟨g1, g', e1, e2, e3⟩ | e0
    · exact .arrN id g (by omega) (by rw [e]; exact h2)
    · rw [h2] at e1; simp [Cn.gen] at e1; exact .arrS id g 0 0 g' _ _ (by omega) e2 (by omega)
    · rw [e0] at h2; cases h2
  | arrS id g off len g' a cap h1 h2 h3 =>
    rcases h.μ id h1 with e | ⟨g1, g2, e1, e2, e3⟩ | e0
    · exact .arrS id g off len g' a cap (by omega) (by rw [e]; exact h2) h3
    · rw [h2] at e1; cases e1; exact .arrS id g off len g2 a cap (by omega) e2 (by omega)
    · rw [e0] at h2; cases h2
  | elt id g i off B o cap sz h1 h2 =>
    rcases h.μ id h1 with e | ⟨g1, g', e1, e2, e3⟩ | e0
    · exact .elt id g i off B o cap sz (by omega) (by rw [e]; exact h2)
    · rw [h2] at e1; simp [Cn.gen] at e1; exact .eltS id g i off g' _ _ (by omega) e2 (by omega)
    · rw [e0] at h2; cases h2
  | eltS id g i off g' B o h1 h2 h3 =>
    rcases h.μ id h1 with e | ⟨g1, g2, e1, e2, e3⟩ | e0
    · exact .eltS id g i off g' B o (by omega) (by rw [e]; exact h2) h3
    · rw [h2] at e1; cases e1; exact .eltS id g i off g2 B o (by omega) e2 (by omega)
    · rw [e0] at h2; cases h2
  | fn f cs vs h1 _ ih => exact .fn f cs vs h1 ih
  | map id r h1 h2 =>
    rcases h.μ id h1 with e | ⟨g1, g', e1, e2, e3⟩ | e0
    · exact .map id r (by omega) (by rw [e]; exact h2)
    · rw [h2] at e1; cases e1
    · rw [e0] at h2; cases h2
  | yl id r b h1 h2 =>
    rcases h.μ id h1 with e | ⟨g1, g', e1, e2, e3⟩ | e0
    · exact .yl id r b (by omega) (by rw [e]; exact h2)
    · rw [h2] at e1; cases e1
    · rw [e0] at h2; cases h2
  | tup vs xs h1 _ ih => exact .tup vs xs h1 ih
  | gdT v x _ ih => exact .gdT v x ih
  | gdF v => exact .gdF v
  | undef v => exact .undef v

def exitCode : Ex → Option Code
  | .nor => none
  | .exit id => some (.exit id)
  | .ret => some .ret
/-- A range over a function: its state, and the jump that waits. -/
def LS.rep : LS → LoopState × Option Code → Prop
  | .ready, p => p = (.ready, none)
  | .busy, p => p = (.busy, none)
  | .done e, p => p = (.done, exitCode e)

def LRec (C : Cx) (b : Nat) (w : World) (r : Nat) (st : LS) (f lid : Nat) (tm : Tm) : Prop :=
  ∃ L : Loop, w.heap[r]? = some (.loop L) ∧ LS.rep st (L.state, L.pending) ∧ C.L.code f lid = some (L.params.toList, L.assign, L.body) ∧ C.L.nt f = some L.tmps.size ∧
    ∀ i, ARep C b (look tm i) (L.tmps.getD i Go.undef)

/-- A block of the call's own, as memory has it. -/
def ORep (C : Cx) (n : Nat) (w : World) : Cn → Obj → Prop
  | _, .dead => True
  | .none, _ => True
  | .box B, .box cs => ∃ c T, w.heap[B]? = some (.cells c T (0, 0)) ∧ c.size = cs.length ∧ cs.all AV.one = true ∧ ∀ k, k < cs.length → ARep C n (cs.getD k .undef) (c.getD k Go.undef)
  | .arr g B o cap sz, .arr g' sz' _ es => g = g' ∧ sz = sz' ∧ 0 < sz ∧ es.length ≤ cap ∧ (∀ x ∈ es, x.cells.length = sz) ∧
      ∃ c T, w.heap[B]? = some (.cells c T (0, 0)) ∧ o + cap * sz ≤ c.size ∧ ∀ k, k < (flat es).length → PRep C.M ((flat es).getD k .nils) (c.getD (o + k) Go.undef) ∧ (c.getD (o + k) Go.undef).oneCell' = true
  | .nil g, .arr g' _ _ es => g = g' ∧ es = []
  | .map r, .map es => ∃ (en : Array MapEntry) (clock : Nat), w.heap[r]? = some (.map en clock) ∧ en.size = es.length ∧
      ∀ (k : Nat) (e : MapEntry), en[k]? = some e → ∃ p : PV × PV, es[k]? = some p ∧ PRep C.M p.1 e.key ∧ PRep C.M p.2 e.val
  | .loop r b, .loop st f lid tm => b ≤ n ∧ LRec C b w r st f lid tm
  | _, _ => False

theorem ORep.mono {C C' : Cx} {n n' : Nat} {w w' : World} {c : Cn} {o : Obj} (h : Ext n C C') (hn : n ≤ n') (hw : ∀ B, c.blk = some B → w'.heap[B]? = w.heap[B]?)
    (r : ORep C n w c o) : ORep C' n' w' c o := by
  match c, o, r, hw with
  | .box B, .box cs, r, hw =>
    obtain ⟨c, T, h1, h2, h2', h3⟩ := r
    exact ⟨c, T, by rw [hw _ rfl]; exact h1, h2, h2', fun k hk => (h3 k hk).mono h hn⟩
  | .arr g B o cap sz, .arr g' sz' sh es, r, hw =>
    obtain ⟨h1, h2, h3, h4, h5, c, T, h6, h7, h8⟩ := r
    exact ⟨h1, h2, h3, h4, h5, c, T, by rw [hw _ rfl]; exact h6, h7, fun k hk => ⟨(h8 k hk).1.mono h.M, (h8 k hk).2⟩⟩
  | .nil g, .arr g' sz' sh es, r, _ => exact r
  | .map m, .map es, r, hw =>
    obtain ⟨en, cl, h1, h2, h3⟩ := r
    refine ⟨en, cl, by rw [hw _ rfl]; exact h1, h2, fun k e hk => ?_⟩
    obtain ⟨p, hp, h4, h5⟩ := h3 k e hk
    exact ⟨p, hp, h4.mono h.M, h5.mono h.M⟩
  | .loop r b, .loop st f lid tm, rr, hw =>
    obtain ⟨h0, L, h1, h2, h4, h5, h6⟩ := rr
    exact ⟨by omega, L, by rw [hw _ rfl]; exact h1, h2, by rw [h.L]; exact h4, by rw [h.L]; exact h5, fun i => (h6 i).mono (h.le h0) (Nat.le_refl _)⟩
  | .none, .dead, _, _ => exact trivial
  | .none, .loop _ _ _ _, _, _ => exact trivial
  | .loop _ _, .dead, _, _ => exact trivial
  | .none, .box _, _, _ => exact trivial
  | .none, .arr _ _ _ _, _, _ => exact trivial
  | .none, .map _, _, _ => exact trivial
  | .box _, .dead, _, _ => exact trivial
  | .arr _ _ _ _ _, .dead, _, _ => exact trivial
  | .nil _, .dead, _, _ => exact trivial
  | .map _, .dead, _, _ => exact trivial
  | .box _, .arr _ _ _ _, r, _ => exact r.elim
  | .box _, .map _, r, _ => exact r.elim
  | .arr _ _ _ _ _, .box _, r, _ => exact r.elim
  | .arr _ _ _ _ _, .map _, r, _ => exact r.elim
  | .nil _, .box _, r, _ => exact r.elim
  | .nil _, .map _, r, _ => exact r.elim
  | .map _, .box _, r, _ => exact r.elim
  | .map _, .arr _ _ _ _, r, _ => exact r.elim
  | .map _, .loop _ _ _ _, r, _ => exact r.elim
  | .box _, .loop _ _ _ _, r, _ => exact r.elim
  | .arr _ _ _ _ _, .loop _ _ _ _, r, _ => exact r.elim
  | .nil _, .loop _ _ _ _, r, _ => exact r.elim
  | .loop _ _, .box _, r, _ => exact r.elim
  | .loop _ _, .arr _ _ _ _, r, _ => exact r.elim
  | .loop _ _, .map _, r, _ => exact r.elim

/-- What a call began with: the world; the blocks it may write; what nobody writes. -/
structure Base where
  w0 : World
  S : Nat → Prop
  M0 : Addr → Option Value

/-- Nothing that was there when the call began has turned, but the blocks in S. -/
structure Fr (w0 : World) (S : Nat → Prop) (w : World) : Prop where
  os : w.os = w0.os
  tape : w.tape = w0.tape
  output : w.output = w0.output
  size : w0.heap.size ≤ w.heap.size
  block : ∀ k, k < w0.heap.size → ¬ S k → w.heap[k]? = w0.heap[k]?

/-- Memory, as the evaluation has it. -/
structure Mem (F : Base) (C : Cx) (h : Hp) (w : World) : Prop where
  objs : ∀ id, id < h.length → ORep C h.length w (C.μ id) (h.at id)
  prot : ∀ a v, C.M a = some v → w.cell? a = some v
  src : ∀ a v, C.M a = some v → F.w0.heap.size ≤ a.block ∨ F.S a.block ∨ F.M0 a = some v
  sep : ∀ id B, id < h.length → (C.μ id).blk = some B → ∀ a v, C.M a = some v → a.block = B →
    ∃ g o cap sz es, C.μ id = .arr g B o cap sz ∧ h.at id = .arr g sz true es ∧ a.off < o + es.length * sz
  inj : ∀ i j B, i < h.length → j < h.length → (C.μ i).blk = some B → (C.μ j).blk = some B → i = j
  lt : ∀ id B, id < h.length → (C.μ id).blk = some B → B < w.heap.size ∧ (F.S B ∨ F.w0.heap.size ≤ B)
  kept : ∀ B o, C.K B = some o → w.heap[B]? = some o
  ksep : ∀ B o, C.K B = some o → ∀ id, id < h.length → (C.μ id).blk ≠ some B
  bnd : ∀ id r b, id < h.length → C.μ id = .loop r b → b ≤ id
  fr : Fr F.w0 F.S w

end Go.En
namespace Go.En
open Go.RowKit

/-- The table tells the truth of the program. -/
structure Tab.Ok (T : Tab) (P : Program) : Prop where
  info : ∀ t i, T.info t = some i → P.underlying t = some i.desc ∧ ∃ inf z, P.info? t = some inf ∧ inf.size = i.size ∧ inf.bytes = i.bytes ∧ inf.zero = some z ∧
    z.cells.size = i.size ∧ i.zero.length = i.size ∧ (∀ k, k < i.zero.length → PRep (fun _ => none) (i.zero.getD k .nils) (z.cells.getD k Go.undef) ∧ (AV.p (i.zero.getD k .nils)).one = true) ∧
    (isAggD i.desc = true → z = .agg z.cells) ∧ (isAggD i.desc = false → i.size = 1 ∧ z.cells = #[z])
  fields : ∀ t i fs, T.info t = some i → i.desc = .struct fs → (∀ f ∈ fs.toList, (P.info? f.type).isSome = true) ∧ P.stoodInHeld t = false

section
variable {P : Program} {T : Tab} {F : Base} {w : World} {C : Cx} {h rd : Hp} {n : Nat}

theorem ofVal1_rep {v : Value} {x : AV} (hx : ofVal1 v = some x) : ARep C n x v := by
  unfold ofVal1 at hx
  split at hx <;> cases hx <;> first
    | exact .p _ _ (.int _ _)
    | exact .p _ _ (.bool _)
    | exact .p _ _ (.str _)
    | exact .p _ _ .nils
    | exact .p _ _ .nilp
    | exact .p _ _ .nilf
    | exact .p _ _ .nili
    | exact .p _ _ .nilm

theorem ofVals_rep : ∀ {l : List Value} {xs : List AV}, ofVals l = some xs → xs.length = l.length ∧ ∀ k, k < xs.length → ARep C n (xs.getD k .undef) (l.getD k Go.undef)
  | [], xs, hx => by simp [ofVals] at hx; subst hx; simp
  | v :: r, xs, hx => by
    simp only [ofVals, Option.bind_eq_some_iff, Option.map_eq_some_iff] at hx
    obtain ⟨x, h1, ys, h2, rfl⟩ := hx
    obtain ⟨h3, h4⟩ := ofVals_rep h2
    refine ⟨by simp [h3], fun k hk => ?_⟩
    cases k with
    | zero => exact ofVal1_rep h1
    | succ k => simpa using h4 k (by simpa using hk)

theorem ofVal_rep (v : Value) : ARep C n (ofVal v) v := by
  unfold ofVal
  split
  · rename_i cs
    cases e : ofVals cs.toList with
    | none => exact .undef _
    | some xs =>
      obtain ⟨h1, h2⟩ := ofVals_rep (C := C) (n := n) e
      exact .agg xs cs (by simpa using h1.symm) (fun k hk => by have := h2 k hk; simpa using this)
  · cases e : ofVal1 _ with
    | none => exact .undef _
    | some x => exact ofVal1_rep e

theorem evo_rep {tm : Tm} {a : Act} (ht : ∀ i, ARep C n (look tm i) (a.tmps.getD i Go.undef)) (x : Operand) : ARep C n (evo tm x) (a.eval x) := by
  cases x with
  | tmp t => exact ht t
  | const v => exact ofVal_rep v
  | global g => exact .undef _
  | func f => exact .p _ _ (.fn f [] #[] rfl (by simp))

theorem uv_rep {x : AV} {v : Value} (hr : ARep C n x v) (hk : uk true x = true) : ARep C n (uv x) v := by
  cases x with
  | gd b y =>
    simp [uk] at hk
    subst hk
    cases hr with
    | gdT _ _ h => exact h
  | _ => exact hr

/-- An operand that is in use. -/
theorem opd {tm : Tm} {a : Act} (ht : ∀ i, ARep C n (look tm i) (a.tmps.getD i Go.undef)) {x : Operand} (hk : uk true (evo tm x) = true) : ARep C n (uv (evo tm x)) (a.eval x) :=
  uv_rep (evo_rep ht x) hk

theorem p_inv {x : PV} {v : Value} (hr : ARep C n (.p x) v) : PRep C.M x v := by cases hr with | p _ _ h => exact h
theorem int_inv {k : IntKind} {i : Int} {v : Value} (hr : ARep C n (.p (.int k i)) v) : v = .int k i := by cases p_inv hr with | int => rfl
theorem bool_inv {b : Bool} {v : Value} (hr : ARep C n (.p (.bool b)) v) : v = .bool b := by cases p_inv hr with | bool => rfl
theorem str_inv {s : ByteArray} {v : Value} (hr : ARep C n (.p (.str s)) v) : v = .string s := by cases p_inv hr with | str => rfl
theorem mkint (k : IntKind) (i : Int) : ARep C n (.p (.int k i)) (.int k i) := .p _ _ (.int k i)
theorem mkbool (b : Bool) : ARep C n (.p (.bool b)) (.bool b) := .p _ _ (.bool b)

theorem flat_length {es : List PV} {sz : Nat} (hu : ∀ x ∈ es, x.cells.length = sz) : (flat es).length = es.length * sz := by
  induction es with
  | nil => simp [flat]
  | cons x es ih =>
    have h1 := hu x (by simp)
    have h2 := ih (fun y hy => hu y (by simp [hy]))
    simp only [flat, List.flatMap_cons, List.length_append, List.length_cons] at h2 ⊢
    rw [h1, h2, Nat.succ_mul]; omega

theorem flat_get {es : List PV} {sz : Nat} (hu : ∀ x ∈ es, x.cells.length = sz) {i j : Nat} (hi : i < es.length) (hj : j < sz) :
    (flat es).getD (i * sz + j) .nils = ((es.getD i .nils).cells).getD j .nils := by
  induction es generalizing i with
  | nil => simp at hi
  | cons x es ih =>
    have h1 := hu x (by simp)
    have h2 := fun y hy => hu y (List.mem_cons_of_mem x hy)
    cases i with
    | zero =>
      simp only [flat, List.flatMap_cons, Nat.zero_mul, Nat.zero_add, List.getD_eq_getElem?_getD]
      rw [List.getElem?_append_left (by omega)]
      simp
    | succ i =>
      have h3 := ih h2 (i := i) (by simpa using hi)
      simp only [flat, List.flatMap_cons, List.getD_eq_getElem?_getD, Nat.succ_mul] at h3 ⊢
      rw [List.getElem?_append_right (by omega)]
      rw [show i * sz + sz + j - x.cells.length = i * sz + j from by omega]
      rw [h3]; simp

theorem mapp_getD {cs : List PV} {k : Nat} (hk : k < cs.length) : (cs.map AV.p).getD k .undef = .p (cs.getD k .nils) := by
  simp [List.getD_eq_getElem?_getD, hk]

theorem cell_of_block {w : World} {B : Nat} {c : Array Value} {T : TypeId} {fr : Nat × Nat} (hb : w.heap[B]? = some (.cells c T fr)) (o : Nat) : w.cell? ⟨B, o, none⟩ = c[o]? := by
  simp [World.cell?, hb]

theorem getD_some {c : Array Value} {o : Nat} (ho : o < c.size) : c[o]? = some (c.getD o Go.undef) := by
  simp [Array.getD_eq_getD_getElem?, ho]

theorem cellsAt_rep (hm : Mem F C h w) (hrd : ∀ id, rd.at id ≠ .dead → h.at id = rd.at id) {x : AV} {v : Value} {cs : List AV} {off : Nat} (hc : cellsAt rd x = some (cs, off)) (hr : ARep C h.length x v) :
    ∃ B o, v = .pointer (some ⟨B, o + off, none⟩) ∧ ∀ k, k < cs.length → ∃ u, w.cell? ⟨B, o + k, none⟩ = some u ∧ ARep C h.length (cs.getD k .undef) u := by
  unfold cellsAt at hc
  split at hc
  · rename_i cs' off'
    simp at hc; obtain ⟨rfl, rfl⟩ := hc
    cases p_inv hr with
    | ptr _ _ B o f h1 h2 =>
      refine ⟨B, o, rfl, fun k hk => ?_⟩
      have hk' : k < cs'.length := by simpa using hk
      exact ⟨f k, hm.prot _ _ (h1 k hk').1, by rw [mapp_getD hk']; exact .p _ _ (h2 k hk')⟩
  · rename_i id off'
    split at hc
    · rename_i cs' e
      simp at hc; obtain ⟨rfl, rfl⟩ := hc
      cases hr with
      | ref _ _ B h1 h2 =>
        have ho := hm.objs id h1
        rw [hrd id (by rw [e]; simp), e, h2] at ho
        obtain ⟨c, T', h3, h4, _, h5⟩ := ho
        refine ⟨B, 0, by simp, fun k hk => ?_⟩
        rw [cell_of_block h3]
        exact ⟨_, getD_some (by omega), by simpa using h5 k hk⟩
    · cases hc
  · rename_i id g i off'
    split at hc
    · rename_i g' sz sh es e
      split at hc
      · rename_i hg
        subst hg
        cases ex : es[i]? with
        | none => rw [ex] at hc; cases hc
        | some x =>
          rw [ex] at hc; simp at hc; obtain ⟨rfl, rfl⟩ := hc
          have hi : i < es.length := (List.getElem?_eq_some_iff.1 ex).1
          have hlive : h.at id = .arr g sz sh es := by rw [hrd id (by rw [e]; simp), e]
          cases hr with
          | elt _ _ _ _ B o cap sz' h1 h2 =>
            have ho := hm.objs id h1
            rw [hlive, h2] at ho
            obtain ⟨_, rfl, hsz, h3, h4, c, T', h5, h6, h7⟩ := ho
            have hx : x.cells.length = sz' := h4 x (List.mem_of_getElem? ex)
            refine ⟨B, o + i * sz', by simp, fun k hk => ?_⟩
            have hk' : k < x.cells.length := by simpa using hk
            have hfl := flat_length h4
            have hik : i * sz' + k < es.length * sz' := by
              have : (i + 1) * sz' ≤ es.length * sz' := Nat.mul_le_mul_right _ hi
              rw [Nat.succ_mul] at this; omega
            have hcap : es.length * sz' ≤ cap * sz' := Nat.mul_le_mul_right _ h3
            rw [cell_of_block h5]
            refine ⟨_, getD_some (by omega), ?_⟩
            rw [mapp_getD hk']
            have h8 := (h7 (i * sz' + k) (by omega)).1
            rw [flat_get h4 hi (by omega)] at h8
            have : es.getD i .nils = x := by simp [List.getD_eq_getElem?_getD, ex]
            rw [this] at h8
            refine .p _ _ ?_
            rw [show o + i * sz' + k = o + (i * sz' + k) from by omega]
            exact h8
          | eltS _ _ _ _ g' _ _ h1 h2 h3 =>
            have ho := hm.objs id h1
            rw [hlive] at ho
            cases hc : C.μ id <;> rw [hc] at ho h2 <;> simp [Cn.gen] at h2
            · obtain ⟨h4, _⟩ := ho; omega
            · obtain ⟨h4, _⟩ := ho; omega
      · cases hc
    · cases hc
  · cases hc

end
end Go.En
namespace Go.En
open Go.RowKit

section
variable {P : Program} {T : Tab} {F : Base} {w : World} {C : Cx} {h rd : Hp} {n : Nat}

theorem add_at (B o n : Nat) : (⟨B, o, none⟩ : Addr).add n = ⟨B, o + n, none⟩ := by
  unfold Addr.add
  split
  · rename_i e; subst e; rfl
  · rfl

theorem run_isAgg (hT : T.Ok P) {t : Nat} {i : TI} (hi : T.info t = some i) : (isAgg t).run P w = .ok (isAggD i.desc) w := by
  have hu := (hT.info t i hi).1
  unfold isAgg
  simp only [Sem.run_bind, run_underlying hu, Result.andThen_ok]
  cases i.desc <;> rfl

theorem run_sizeOf (hT : T.Ok P) {t : Nat} {i : TI} (hi : T.info t = some i) : (sizeOf t).run P w = .ok i.size w := by
  obtain ⟨_, inf, z, h1, h2, _⟩ := hT.info t i hi
  simp [sizeOf, typeInfo, h1, h2]

theorem run_typeInfo (hT : T.Ok P) {t : Nat} {i : TI} (hi : T.info t = some i) : ∃ inf, (typeInfo t).run P w = .ok inf w ∧ inf.size = i.size ∧ inf.bytes = i.bytes := by
  obtain ⟨_, inf, z, h1, h2, h3, _⟩ := hT.info t i hi
  exact ⟨inf, by simp [typeInfo, h1], h2, h3⟩

theorem agg_slice {cs : List AV} {f : Nat → Value} {off m : Nat} (hl : off + m ≤ cs.length) (hr : ∀ k, k < cs.length → ARep C n (cs.getD k .undef) (f k)) :
    ARep C n (.agg ((cs.drop off).take m)) (.agg ((List.range m).map fun j => f (off + j)).toArray) := by
  refine .agg _ _ (by simp; omega) (fun k hk => ?_)
  have hk' : k < m := by simp at hk; omega
  have h1 := hr (off + k) (by omega)
  have e1 : ((cs.drop off).take m).getD k .undef = cs.getD (off + k) .undef := by
    simp [List.getD_eq_getElem?_getD, hk', List.getElem?_drop]
  have e2 : ((List.range m).map fun j => f (off + j)).toArray.getD k Go.undef = f (off + k) := by
    simp [Array.getD_eq_getD_getElem?, hk']
  rw [e1, e2]; exact h1

theorem loadV_sound (hT : T.Ok P) (hm : Mem F C h w) (hrd : ∀ id, rd.at id ≠ .dead → h.at id = rd.at id) {t : Nat} {x : AV} {v : Value}
    (hok : (loadV T rd t x).ok = true) (hr : ARep C h.length x v) : ∃ u, (Instr.loadAt t v).run P w = .ok u w ∧ ARep C h.length (loadV T rd t x).v u := by
  unfold loadV at hok ⊢
  split at hok
  · rename_i i cs off hi hc
    obtain ⟨B, o, rfl, hcell⟩ := cellsAt_rep hm hrd hc hr
    have hagg := run_isAgg (w := w) hT hi
    have hsz := run_sizeOf (w := w) hT hi
    by_cases ha : isAggD i.desc = true
    · simp only [ha, if_true] at hok ⊢
      have hle : off + i.size ≤ cs.length := by simpa using hok
      let f := fun k => (w.cell? ⟨B, o + k, none⟩).getD Go.undef
      have hl := run_loadCells (P := P) w ⟨B, o + off, none⟩ i.size (fun j => f (off + j)) (fun j hj => by
        obtain ⟨u, hu, _⟩ := hcell (off + j) (by omega)
        rw [add_at, Nat.add_assoc]; simp [f, hu])
      refine ⟨_, ?_, agg_slice (f := f) hle (fun k hk => by obtain ⟨u, hu, h2⟩ := hcell k hk; simpa [f, hu] using h2)⟩
      simp [Instr.loadAt, Instr.sureAddr, loadVar, hagg, hsz, ha, hl]
    · have ha' : isAggD i.desc = false := by simpa using ha
      simp only [ha', Bool.false_eq_true, if_false] at hok ⊢
      have hlt : off < cs.length := by simpa using hok
      obtain ⟨u, hu, h2⟩ := hcell off hlt
      refine ⟨u, ?_, h2⟩
      simp [Instr.loadAt, Instr.sureAddr, loadVar, hagg, ha', hu]
  · simp [O.bad] at hok

theorem shiftA_rep {m : Nat} {x y : AV} {v : Value} (hs : shiftA m x = some y) (hr : ARep C n x v) :
    ∃ B o, v = .pointer (some ⟨B, o, none⟩) ∧ ARep C n y (.pointer (some ⟨B, o + m, none⟩)) := by
  unfold shiftA at hs
  split at hs <;> cases hs
  · cases p_inv hr with
    | ptr _ _ B o f h1 h2 => exact ⟨B, _, rfl, .p _ _ (by rw [Nat.add_assoc]; exact .ptr _ _ B o f h1 h2)⟩
  · cases hr with
    | ref _ _ B h1 h2 => exact ⟨B, _, rfl, .ref _ _ B h1 h2⟩
  · cases hr with
    | elt _ _ _ _ B o cap sz h1 h2 => exact ⟨B, _, rfl, by rw [Nat.add_assoc]; exact .elt _ _ _ _ B o cap sz h1 h2⟩
    | eltS _ _ _ _ g' B o h1 h2 h3 => exact ⟨B, o, rfl, .eltS _ _ _ _ g' B _ h1 h2 h3⟩

theorem fieldOf_inv (hT : T.Ok P) {s f off : Nat} {i : TI} (hf : fieldOf T s f = some (off, i)) :
    ∃ fs fd, P.underlying s = some (.struct fs) ∧ fs[f]? = some fd ∧ fd.offset = off ∧ T.info fd.type = some i := by
  unfold fieldOf descOf at hf
  cases hs : T.info s with
  | none => rw [hs] at hf; cases hf
  | some si =>
    rw [hs] at hf
    have hu := (hT.info s si hs).1
    cases hd : si.desc <;> simp only [hd] at hf hu <;> try cases hf
    rename_i fs
    simp only [Option.bind_eq_some_iff, Option.map_eq_some_iff] at hf
    obtain ⟨fd, h1, i', h2, h3⟩ := hf
    cases h3
    exact ⟨fs, fd, hu, by simpa using h1, rfl, h2⟩

theorem run_fieldPlace (hT : T.Ok P) {B o : Nat} {fd : Field} {i : TI} (hi : T.info fd.type = some i) (hs : i.size ≠ 0) :
    (fieldPlace ⟨B, o, none⟩ fd).run P w = .ok ⟨B, o + fd.offset, none⟩ w := by
  have hsz := run_sizeOf (w := w) hT hi
  simp [fieldPlace, hsz, hs, add_at]

theorem fieldV_sound (hT : T.Ok P) {s f : Nat} {x : AV} {v : Value} (hok : (fieldV T s x f).ok = true) (hr : ARep C n x v) :
    ∃ u, (Instr.fieldAt s v f).run P w = .ok u w ∧ ARep C n (fieldV T s x f).v u := by
  unfold fieldV at hok ⊢
  split at hok
  · rename_i off i hf
    by_cases hs : i.size = 0
    · rw [if_pos hs] at hok; simp [O.bad] at hok
    · rw [if_neg hs] at hok
      rw [if_neg hs]
      cases hy : shiftA off x with
      | none => rw [hy] at hok; simp [O.of, O.bad] at hok
      | some y =>
        obtain ⟨fs, fd, h1, h2, h3, h4⟩ := fieldOf_inv hT hf
        obtain ⟨B, o, rfl, h5⟩ := shiftA_rep hy hr
        refine ⟨_, ?_, by simpa [O.of] using h5⟩
        have hp := run_fieldPlace (w := w) (B := B) (o := o) hT h4 hs
        rw [h3] at hp
        simp [Instr.fieldAt, run_underlying h1, h2, Instr.sureAddr, hp]
  · simp [O.bad] at hok

theorem run_part (hT : T.Ok P) {t off : Nat} {i : TI} {cs : List AV} {vs : Array Value} (hi : T.info t = some i) (hl : vs.size = cs.length)
    (hr : ∀ k, k < cs.length → ARep C n (cs.getD k .undef) (vs.getD k Go.undef)) :
    (isAggD i.desc = true → off + i.size ≤ cs.length → ∃ u, (part t vs off).run P w = .ok u w ∧ ARep C n (.agg ((cs.drop off).take i.size)) u) ∧
    (isAggD i.desc = false → off < cs.length → ∃ u, (part t vs off).run P w = .ok u w ∧ ARep C n (cs.getD off .undef) u) := by
  have hagg := run_isAgg (w := w) hT hi
  have hsz := run_sizeOf (w := w) hT hi
  constructor
  · intro ha hle
    refine ⟨.agg (vs.extract off (off + i.size)), by simp [part, hagg, ha, hsz], ?_⟩
    refine .agg _ _ (by simp; omega) (fun k hk => ?_)
    have hk' : k < i.size := by simp at hk; omega
    have e1 : ((cs.drop off).take i.size).getD k .undef = cs.getD (off + k) .undef := by
      simp [List.getD_eq_getElem?_getD, hk', List.getElem?_drop]
    have e2 : (vs.extract off (off + i.size)).getD k Go.undef = vs.getD (off + k) Go.undef := by
      simp only [Array.getD_eq_getD_getElem?, Array.getElem?_extract]
      rw [if_pos (by omega)]
    rw [e1, e2]; exact hr _ (by omega)
  · intro ha hlt
    obtain ⟨u, hu⟩ : ∃ u, vs[off]? = some u := ⟨_, getD_some (show off < vs.size by omega)⟩
    have h1 := hr off hlt
    rw [Array.getD_eq_getD_getElem?, hu] at h1
    exact ⟨u, by simp [part, hagg, ha, hu], h1⟩

theorem partV_sound (hT : T.Ok P) {s f : Nat} {x : AV} {v : Value} (hok : (partV T s x f).ok = true) (hr : ARep C n x v) :
    ∃ u, (Instr.field s v f).run P w = .ok u w ∧ ARep C n (partV T s x f).v u := by
  unfold partV at hok ⊢
  split at hok
  · rename_i off i cs hf
    obtain ⟨fs, fd, h1, h2, h3, h4⟩ := fieldOf_inv hT hf
    cases hr with
    | agg _ vs h5 h6 =>
      have hp := run_part (w := w) (off := off) hT h4 h5 h6
      rw [← h3] at hp hok ⊢
      by_cases ha : isAggD i.desc = true
      · simp only [ha, if_true] at hok ⊢
        obtain ⟨u, h7, h8⟩ := hp.1 ha (by simpa using hok)
        exact ⟨u, by simp [Instr.field, run_underlying h1, h2, asAgg, h7], h8⟩
      · have ha' : isAggD i.desc = false := by simpa using ha
        simp only [ha', Bool.false_eq_true, if_false] at hok ⊢
        obtain ⟨u, h7, h8⟩ := hp.2 ha' (by simpa using hok)
        exact ⟨u, by simp [Instr.field, run_underlying h1, h2, asAgg, h7], h8⟩
  · simp [O.bad] at hok

theorem elemOf_inv (hT : T.Ok P) {t : Nat} {e : TI} (he : elemOf T t = some e) : ∃ et, P.underlying t = some (.slice et) ∧ T.info et = some e := by
  unfold elemOf descOf at he
  cases hs : T.info t with
  | none => rw [hs] at he; cases he
  | some si =>
    rw [hs] at he
    have hu := (hT.info t si hs).1
    cases hd : si.desc <;> simp only [hd] at he hu <;> try cases he
    exact ⟨_, hu, he⟩

theorem descOf_inv (hT : T.Ok P) {t : Nat} {d : TypeDesc} (hd : descOf T t = some d) : P.underlying t = some d := by
  unfold descOf at hd
  cases hs : T.info t with
  | none => rw [hs] at hd; cases hd
  | some si => rw [hs] at hd; cases hd; exact (hT.info t si hs).1

end
end Go.En
namespace Go.En
open Go.RowKit

section
variable {P : Program} {T : Tab} {F : Base} {w : World} {C : Cx} {h rd : Hp} {n : Nat}

theorem indexAddrV_sound (hT : T.Ok P) (hm : Mem F C h w) (hrd : ∀ id, rd.at id ≠ .dead → h.at id = rd.at id) {t : Nat} {x i : AV} {v iv : Value}
    (hok : (indexAddrV T rd t x i).ok = true) (hr : ARep C h.length x v) (hi : ARep C h.length i iv) :
    ∃ u, (Instr.indexAt t v iv).run P w = .ok u w ∧ ARep C h.length (indexAddrV T rd t x i).v u := by
  unfold indexAddrV at hok ⊢
  split at hok
  · rename_i l k m
    cases he : elemOf T t with
    | none => rw [he] at hok; simp [O.bad] at hok
    | some e =>
      simp only [he] at hok ⊢
      obtain ⟨et, h1, h2⟩ := elemOf_inv hT he
      have hsz := run_sizeOf (w := w) hT h2
      simp only [Bool.and_eq_true, decide_eq_true_eq] at hok
      obtain ⟨⟨h3, h4⟩, h5⟩ := hok
      have := int_inv hi; subst this
      cases p_inv hr with
      | sl0 => simp at h4; omega
      | slE => simp at h4; omega
      | sl _ B o cap sz f h6 h7 h8 h9 =>
        have hlt : m.toNat < l.length := by omega
        have hx : (l.getD m.toNat .nils).cells.length = sz := h7 _ (by
          rw [List.getD_eq_getElem?_getD, List.getElem?_eq_getElem hlt]; exact List.getElem_mem _)
        rw [hx] at h5; subst h5
        have hfl := flat_length h7
        refine ⟨.pointer (some ⟨B, o + m.toNat * e.size, none⟩), ?_, .p _ _ ?_⟩
        · simp [Instr.indexAt, asIntOf, run_underlying h1, h3, h4, hsz, add_at]
        · refine .ptr (l.getD m.toNat .nils).cells 0 B (o + m.toNat * e.size) (fun j => f (m.toNat * e.size + j)) (fun j hj => ?_) (fun j hj => ?_)
          · rw [hx] at hj
            have hik : m.toNat * e.size + j < l.length * e.size := by
              have : (m.toNat + 1) * e.size ≤ l.length * e.size := Nat.mul_le_mul_right _ hlt
              rw [Nat.succ_mul] at this; omega
            rw [Nat.add_assoc]; exact h8 _ (by omega)
          · rw [hx] at hj
            have hik : m.toNat * e.size + j < l.length * e.size := by
              have : (m.toNat + 1) * e.size ≤ l.length * e.size := Nat.mul_le_mul_right _ hlt
              rw [Nat.succ_mul] at this; omega
            have h10 := h9 (m.toNat * e.size + j) (by omega)
            rwa [flat_get h7 hlt hj] at h10
  · rename_i id g off len k m
    split at hok
    · rename_i e g' sz sh es he hid
      simp only [Bool.and_eq_true, decide_eq_true_eq] at hok
      obtain ⟨⟨h3, h4⟩, rfl, rfl, h5⟩ := hok
      obtain ⟨et, h1, h2⟩ := elemOf_inv hT he
      have hsz := run_sizeOf (w := w) hT h2
      have := int_inv hi; subst this
      have hlive : h.at id = .arr g e.size sh es := by rw [hrd id (by rw [hid]; simp), hid]
      cases hr with
      | arr _ _ _ _ B o cap sz a h6 h7 h8 h9 =>
        have ho := hm.objs id h6
        rw [hlive, h7] at ho
        obtain ⟨_, rfl, hsz0, h10, _⟩ := ho
        have ha : a = o + off * e.size := by
          rcases h9 with h9 | h9
          · exact h9
          · omega
        subst ha
        refine ⟨.pointer (some ⟨B, o + (off + m.toNat) * e.size + 0, none⟩), ?_, .elt _ _ _ _ B o cap e.size h6 h7⟩
        simp [Instr.indexAt, asIntOf, run_underlying h1, h3, h4, hsz, add_at, Nat.add_mul, Nat.add_assoc]
      | arrN => simp at h4; omega
      | arrS _ _ _ _ g' a cap h6 h7 h8 =>
        have ho := hm.objs id h6
        rw [hlive] at ho
        cases hc : C.μ id <;> rw [hc] at ho h7 <;> simp [Cn.gen] at h7
        · obtain ⟨h4, _⟩ := ho; omega
        · obtain ⟨h4, _⟩ := ho; omega
    · simp [O.bad] at hok
  · rename_i id off k m
    cases hd : descOf T t with
    | none => simp [hd, O.bad] at hok
    | some d =>
      have h1 := descOf_inv hT hd
      cases d <;> simp only [hd] at hok ⊢ <;> try (simp [O.bad] at hok; done)
      rename_i len et
      cases he : T.info et with
      | none => simp [he, O.bad] at hok
      | some e =>
        simp only [he] at hok ⊢
        have hsz := run_sizeOf (w := w) hT he
        have h3 : 0 ≤ m ∧ m < (len : Int) := by simpa using hok
        have := int_inv hi; subst this
        cases hr with
        | ref _ _ B h6 h7 =>
          refine ⟨_, ?_, .ref _ _ B h6 h7⟩
          simp [Instr.indexAt, asIntOf, run_underlying h1, h3, hsz, add_at, Instr.sureAddr]
  · simp [O.bad] at hok

theorem strAt_get {s : ByteArray} {i : Int} (hlt : i.toNat < s.size) : (s[i.toNat].toNat : Int) = strAt s i := by
  have hlt' : i.toNat < s.data.toList.length := by simpa using hlt
  unfold strAt
  rw [List.getD_eq_getElem?_getD, List.getElem?_eq_getElem hlt']
  simp; rfl

theorem indexV_sound (hT : T.Ok P) {t : Nat} {x i : AV} {v iv : Value} (hok : (indexV T t x i).ok = true) (hr : ARep C n x v) (hi : ARep C n i iv) :
    ∃ u, (Instr.index t v iv).run P w = .ok u w ∧ ARep C n (indexV T t x i).v u := by
  unfold indexV at hok ⊢
  split at hok
  · rename_i s k m
    cases hd : descOf T t with
    | none => simp [hd, O.bad] at hok
    | some d =>
      have h1 := descOf_inv hT hd
      cases d <;> simp only [hd] at hok ⊢ <;> try (simp [O.bad] at hok; done)
      have h3 : 0 ≤ m ∧ m < (s.size : Int) := by simpa using hok
      have := int_inv hi; subst this
      have := str_inv hr; subst this
      have hlt : m.toNat < s.size := by omega
      refine ⟨_, ?_, mkint _ _⟩
      simp [Instr.index, asIntOf, run_underlying h1, h3, hlt, strAt_get hlt]
  · rename_i cs k m
    cases hd : descOf T t with
    | none => simp [hd, O.bad] at hok
    | some d =>
      have h1 := descOf_inv hT hd
      cases d <;> simp only [hd] at hok ⊢ <;> try (simp [O.bad] at hok; done)
      rename_i len et
      cases he : T.info et with
      | none => simp [he, O.bad] at hok
      | some e =>
        simp only [he] at hok ⊢
        by_cases hb : (isAggD e.desc || e.size != 1) = true
        · rw [if_pos hb] at hok; simp [O.bad] at hok
        · rw [if_neg hb] at hok ⊢
          simp at hb
          obtain ⟨hb1, hb2⟩ := hb
          have h3 : 0 ≤ m ∧ m < (len : Int) ∧ m < (cs.length : Int) := by simpa using hok
          have := int_inv hi; subst this
          cases hr with
          | agg _ vs h5 h6 =>
            have hp := (run_part (w := w) (off := m.toNat) hT he h5 h6).2 hb1 (by omega)
            obtain ⟨u, h7, h8⟩ := hp
            have hsz := run_sizeOf (w := w) hT he
            exact ⟨u, by simp [Instr.index, asIntOf, run_underlying h1, h3, hsz, hb2, h7], h8⟩
  · simp [O.bad] at hok

theorem lenOf_inv {x : AV} {v : Value} {k : Nat} (hl : x.lenOf = some k) (hr : ARep C n x v) :
    (∃ a c, v = .slice a k c) ∨ (∃ s, x = .p (.str s) ∧ v = .string s ∧ k = s.size) := by
  unfold AV.lenOf at hl
  split at hl <;> cases hl
  · cases p_inv hr with
    | sl0 => exact .inl ⟨_, _, rfl⟩
    | slE => exact .inl ⟨_, _, rfl⟩
    | sl _ B o cap sz f h1 h2 h3 h4 => exact .inl ⟨_, _, rfl⟩
  · cases p_inv hr with
    | nils => exact .inl ⟨_, _, rfl⟩
  · exact .inr ⟨_, rfl, str_inv hr, rfl⟩
  · cases hr with
    | arr => exact .inl ⟨_, _, rfl⟩
    | arrN => exact .inl ⟨_, _, rfl⟩
    | arrS => exact .inl ⟨_, _, rfl⟩

/-- A bound of a slice expression as the machine has it. -/
def ORepO (C : Cx) (n : Nat) : Option AV → Option Value → Prop
  | none, none => True
  | some x, some v => ARep C n x v
  | _, _ => False

theorem run_bounds {lo hi : Option AV} {lv hv : Option Value} {l r : Int} {len cap : Nat} {b : Bool} (hl : bnd 0 lo = some l) (hh : bnd len hi = some r)
    (rl : ORepO C n lo lv) (rh : ORepO C n hi hv) (h0 : 0 ≤ l) (h1 : l ≤ r) (h2 : r ≤ (cap : Int)) (_h3 : (len : Int) ≤ cap) :
    (Instr.sliceBounds b len cap lv hv none).run P w = .ok (l.toNat, r.toNat, cap) w := by
  have hb : ∀ (x : Value) (k : IntKind) (i : Int) (y : Nat) (code : BoundsCode), x = .int k i → 0 ≤ i → i ≤ (y : Int) → (Instr.sliceBound x y code).run P w = .ok i.toNat w := by
    intro x k i y code hx h0 h1; subst hx
    simp [Instr.sliceBound, asIntOf, h0, h1]
  unfold Instr.sliceBounds
  have hlo : lv = none ∧ l = 0 ∨ ∃ k, lv = some (.int k l) := by
    unfold bnd at hl
    split at hl <;> cases hl
    · cases lv with
      | none => exact .inl ⟨rfl, rfl⟩
      | some v => exact rl.elim
    · cases lv with
      | none => exact rl.elim
      | some v => exact .inr ⟨_, by rw [int_inv rl]⟩
  have hhi : hv = none ∧ r = len ∨ ∃ k, hv = some (.int k r) := by
    unfold bnd at hh
    split at hh <;> cases hh
    · cases hv with
      | none => exact .inl ⟨rfl, rfl⟩
      | some v => exact rh.elim
    · cases hv with
      | none => exact rh.elim
      | some v => exact .inr ⟨_, by rw [int_inv rh]⟩
  rcases hhi with ⟨rfl, rfl⟩ | ⟨k, rfl⟩ <;> rcases hlo with ⟨rfl, rfl⟩ | ⟨k', rfl⟩
  · simp
  · simp [hb _ k' l len _ rfl h0 (by omega)]
  · simp [hb _ k r cap _ rfl (by omega) h2]
  · simp [hb _ k r cap _ rfl (by omega) h2, hb _ k' l r.toNat _ rfl h0 (by omega)]

theorem sub_rows {es : List PV} {sz l r : Nat} (hu : ∀ x ∈ es, x.cells.length = sz) (h1 : l ≤ r) (h2 : r ≤ es.length) :
    (flat ((es.take r).drop l)).length = (r - l) * sz ∧ ∀ k, k < (r - l) * sz → (flat ((es.take r).drop l)).getD k .nils = (flat es).getD (l * sz + k) .nils := by
  have hu' : ∀ x ∈ (es.take r).drop l, x.cells.length = sz := fun x hx => hu x (List.mem_of_mem_take (List.mem_of_mem_drop hx))
  have hl := flat_length hu'
  have hlen : ((es.take r).drop l).length = r - l := by simp; omega
  rw [hlen] at hl
  refine ⟨hl, fun k hk => ?_⟩
  have hsz : 0 < sz := by
    rcases Nat.eq_zero_or_pos sz with h | h
    · subst h; simp at hk
    · exact h
  have hd := Nat.div_add_mod k sz
  have hlt : k / sz < r - l := Nat.div_lt_of_lt_mul (by rw [Nat.mul_comm]; exact hk)
  have hmod := Nat.mod_lt k hsz
  have e : k = (k / sz) * sz + k % sz := by rw [Nat.mul_comm]; exact hd.symm
  rw [e, flat_get hu' (by omega) hmod, ← Nat.add_assoc, ← Nat.add_mul, flat_get hu (by omega) hmod]
  congr 2
  simp only [List.getD_eq_getElem?_getD, List.getElem?_drop, List.getElem?_take]
  rw [if_pos (by omega)]

theorem sliceV_sound (hT : T.Ok P) (hm : Mem F C h w) (hrd : ∀ id, rd.at id ≠ .dead → h.at id = rd.at id) {t : Nat} {x : AV} {lo hi : Option AV} {v : Value} {lv hv : Option Value}
    (hok : (sliceV T rd t x lo hi).ok = true) (hr : ARep C h.length x v) (rl : ORepO C h.length lo lv) (rh : ORepO C h.length hi hv) :
    ∃ u, (Instr.sliceAt t v lv hv none).run P w = .ok u w ∧ ARep C h.length (sliceV T rd t x lo hi).v u := by
  unfold sliceV at hok ⊢
  split at hok
  · rename_i l r hl hh
    cases hlen : x.lenOf with
    | none => rw [hlen] at hh; cases hh
    | some len =>
      rw [hlen] at hh; simp only [Option.bind_some] at hh
      split at hok
      · rename_i es
        simp only [AV.lenOf, Option.some.injEq] at hlen; subst hlen
        cases he : elemOf T t with
        | none => simp [he, O.bad] at hok
        | some e =>
          simp only [he, Bool.and_eq_true, decide_eq_true_eq] at hok ⊢
          obtain ⟨⟨h1, h2, h3⟩, hu⟩ := hok
          obtain ⟨et, h4, h5⟩ := elemOf_inv hT he
          have hsz := run_sizeOf (w := w) hT h5
          cases p_inv hr with
          | sl0 =>
            have hr0 : r = 0 := by simp at h3; omega
            have hl0 : l = 0 := by omega
            subst hr0; subst hl0
            have hb := run_bounds (P := P) (w := w) (b := true) (cap := 0) hl hh rl rh (by omega) (by omega) (by omega) (by simp)
            refine ⟨.slice none 0 0, ?_, .p _ _ (by simpa using PRep.sl0)⟩
            simp at hb
            simp [Instr.sliceAt, Instr.slice, run_underlying h4, hb, hsz]
          | slE a cap =>
            have hr0 : r = 0 := by simp at h3; omega
            have hl0 : l = 0 := by omega
            subst hr0; subst hl0
            have hb := run_bounds (P := P) (w := w) (b := true) (cap := cap) hl hh rl rh (by omega) (by omega) (by omega) (by simp)
            refine ⟨.slice (some a) 0 cap, ?_, .p _ _ (by simpa using PRep.slE a cap)⟩
            simp at hb
            simp [Instr.sliceAt, Instr.slice, run_underlying h4, hb, hsz, Addr.add]
          | sl _ B o cap sz f h6 h7 h8 h9 =>
            have hb := run_bounds (P := P) (w := w) (b := true) (cap := cap) hl hh rl rh h1 h2 (by omega) (by omega)
            refine ⟨.slice (some ⟨B, if cap = l.toNat then o else o + l.toNat * e.size, none⟩) (r.toNat - l.toNat) (cap - l.toNat), ?_, .p _ _ ?_⟩
            · simp only [Instr.sliceAt, Instr.slice, Sem.run_bind, run_underlying h4, Result.andThen_ok, hb, hsz, Sem.run_pure]
              split <;> simp [add_at]
            · have hl2 : ((es.take r.toNat).drop l.toNat).length = r.toNat - l.toNat := by simp; omega
              obtain ⟨hs1, hs2⟩ := sub_rows h7 (show l.toNat ≤ r.toNat by omega) (show r.toNat ≤ es.length by omega)
              have hfl := flat_length h7
              have hadd : ∀ k, k < (r.toNat - l.toNat) * sz → (if cap = l.toNat then o else o + l.toNat * e.size) + k = o + (l.toNat * sz + k) := by
                intro k hk
                have hpos : 0 < r.toNat - l.toNat := Nat.pos_of_ne_zero (fun e => by rw [e] at hk; simp at hk)
                rw [if_neg (by omega)]
                rcases hu with hu | hu
                · have : l.toNat = 0 := by omega
                  rw [this]; simp
                · have : sz = e.size := by
                    rw [← h7 _ (List.getElem_mem (show 0 < es.length by omega)), hu _ (List.getElem_mem (show 0 < es.length by omega))]
                  subst this; omega
              have hin : ∀ k, k < (r.toNat - l.toNat) * sz → l.toNat * sz + k < (flat es).length := by
                intro k hk
                rw [hfl]
                have : r.toNat * sz ≤ es.length * sz := Nat.mul_le_mul_right _ (by omega)
                rw [Nat.sub_mul] at hk; omega
              have := PRep.sl (M := C.M) ((es.take r.toNat).drop l.toNat) B (if cap = l.toNat then o else o + l.toNat * e.size) (cap - l.toNat) sz (fun k => f (l.toNat * sz + k)) (by omega)
                (fun x hx => h7 x (List.mem_of_mem_take (List.mem_of_mem_drop hx)))
                (fun k hk => by rw [hs1] at hk; rw [hadd k hk]; exact h8 _ (hin k hk))
                (fun k hk => by rw [hs1] at hk; rw [hs2 k hk]; exact h9 _ (hin k hk))
              rwa [hl2] at this
      · simp only [AV.lenOf, Option.some.injEq] at hlen; subst hlen
        cases he : elemOf T t with
        | none => simp [he, O.bad] at hok
        | some e =>
          simp only [he, Option.isSome_some, if_true, decide_eq_true_eq] at hok ⊢
          obtain ⟨rfl, rfl⟩ := hok
          obtain ⟨et, h4, h5⟩ := elemOf_inv hT he
          have hsz := run_sizeOf (w := w) hT h5
          cases p_inv hr with
          | nils =>
            have hb := run_bounds (P := P) (w := w) (b := true) (cap := 0) hl hh rl rh (by omega) (by omega) (by omega) (by simp)
            refine ⟨.slice none 0 0, ?_, .p _ _ .nils⟩
            simp at hb
            simp [Instr.sliceAt, Instr.slice, run_underlying h4, hb, hsz]
      · rename_i s
        simp only [AV.lenOf, Option.some.injEq] at hlen; subst hlen
        cases hd : descOf T t with
        | none => simp [hd, O.bad] at hok
        | some d =>
          have h4 := descOf_inv hT hd
          cases d <;> simp only [hd] at hok ⊢ <;> try (simp [O.bad] at hok; done)
          have h1 : 0 ≤ l ∧ l ≤ r ∧ r ≤ (s.size : Int) := by simpa using hok
          have := str_inv hr; subst this
          have hb := run_bounds (P := P) (w := w) (b := false) (cap := s.size) hl hh rl rh h1.1 h1.2.1 h1.2.2 (by omega)
          refine ⟨_, ?_, .p _ _ (.str _)⟩
          simp [Instr.sliceAt, Instr.slice, run_underlying h4, hb]
      · rename_i id g off len'
        simp only [AV.lenOf, Option.some.injEq] at hlen; subst hlen
        split at hok
        · rename_i e g' sz sh es he hid
          simp only [Bool.and_eq_true, decide_eq_true_eq] at hok
          obtain ⟨⟨h1, h2, h3⟩, rfl, rfl, h5⟩ := hok
          obtain ⟨et, h4, h6⟩ := elemOf_inv hT he
          have hsz := run_sizeOf (w := w) hT h6
          have hlive : h.at id = .arr g e.size sh es := by rw [hrd id (by rw [hid]; simp), hid]
          cases hr with
          | arr _ _ _ _ B o cap sz a h7 h8 h9 h10 =>
            have ho := hm.objs id h7
            rw [hlive, h8] at ho
            obtain ⟨_, rfl, hsz0, h11, _⟩ := ho
            have hb := run_bounds (P := P) (w := w) (b := true) (cap := cap - off) hl hh rl rh h1 h2 (by omega) (by omega)
            refine ⟨.slice (some ⟨B, if cap - off = l.toNat then a else a + l.toNat * e.size, none⟩) (r.toNat - l.toNat) (cap - off - l.toNat), ?_, ?_⟩
            · simp only [Instr.sliceAt, Instr.slice, Sem.run_bind, run_underlying h4, Result.andThen_ok, hb, hsz, Sem.run_pure]
              split <;> simp [add_at]
            · have h12 : (r - l).toNat = r.toNat - l.toNat := by omega
              rw [h12, Nat.sub_sub]
              refine .arr _ _ _ _ B o cap e.size _ h7 h8 (by omega) ?_
              by_cases hcl : cap - off = l.toNat
              · right; omega
              · rw [if_neg hcl]
                rcases h10 with h10 | h10
                · left; rw [h10, Nat.add_mul, Nat.add_assoc]
                · omega
          | arrN _ _ h7 h8 =>
            have ho := hm.objs id h7
            rw [hlive, h8] at ho
            obtain ⟨_, rfl⟩ := ho
            have hr0 : r = 0 := by simp at h3; omega
            have hl0 : l = 0 := by omega
            subst hr0; subst hl0
            have hb := run_bounds (P := P) (w := w) (b := true) (cap := 0) hl hh rl rh (by omega) (by omega) (by omega) (by simp)
            refine ⟨.slice none 0 0, ?_, .arrN id g h7 h8⟩
            simp at hb
            simp [Instr.sliceAt, Instr.slice, run_underlying h4, hb, hsz]
          | arrS _ _ _ _ g' a cap h7 h8 h9 =>
            have ho := hm.objs id h7
            rw [hlive] at ho
            cases hc : C.μ id <;> rw [hc] at ho h8 <;> simp [Cn.gen] at h8
            · obtain ⟨h4, _⟩ := ho; omega
            · obtain ⟨h4, _⟩ := ho; omega
        · simp [O.bad] at hok
      · simp [O.bad] at hok
  · simp [O.bad] at hok

end
end Go.En
namespace Go.En
open Go.RowKit

section
variable {P : Program} {T : Tab} {F : Base} {w : World} {C : Cx} {h rd : Hp} {n : Nat}

/-- Cells, one for one. -/
def LRep (C : Cx) (n : Nat) (cs : List AV) (a : Array Value) : Prop := a.size = cs.length ∧ ∀ k, k < cs.length → ARep C n (cs.getD k .undef) (a.getD k Go.undef)

theorem setCells_foldl (vs : List Value) : ∀ (j off : Nat) (cells : Array Value), off + j + vs.length ≤ cells.size →
    ((vs.zipIdx j).foldl (fun cs (p : Value × Nat) => cs.setIfInBounds (off + p.2) p.1) cells).toList = cells.toList.take (off + j) ++ vs ++ cells.toList.drop (off + j + vs.length) := by
  induction vs with
  | nil => intro j off cells h1; simp
  | cons v vs ih =>
    intro j off cells h1
    simp only [List.zipIdx_cons, List.foldl_cons]
    simp only [List.length_cons] at h1
    rw [ih (j + 1) off (cells.setIfInBounds (off + j) v) (by simp; omega)]
    simp only [Array.toList_setIfInBounds, List.length_cons]
    have hlt : off + j < cells.toList.length := by simp; omega
    rw [List.drop_set_of_lt (by omega)]
    rw [show off + (j + 1) = (off + j) + 1 from by omega, List.take_succ_eq_append_getElem (by simpa using hlt)]
    simp only [List.getElem_set_self, List.append_assoc, List.singleton_append]
    rw [List.take_set_of_le (by omega)]
    rw [show off + j + 1 + vs.length = off + j + (vs.length + 1) from by omega]

theorem one_rep {x : AV} {v : Value} (hr : ARep C n x v) (h1 : x.one = true) : v.oneCell' = true ∧ v.cells = #[v] := by
  cases hr with
  | p x v hp => cases hp <;> first | exact ⟨rfl, rfl⟩ | (simp [AV.one] at h1)
  | _ => first | exact ⟨rfl, rfl⟩ | (simp [AV.one] at h1)

theorem cells_rep {x : AV} {v : Value} (hr : ARep C n x v) (ha : x.cells.all AV.one = true) : LRep C n x.cells v.cells ∧ ∀ u ∈ v.cells.toList, u.oneCell' = true := by
  have key : x.one = true → x.cells = [x] → LRep C n x.cells v.cells ∧ ∀ u ∈ v.cells.toList, u.oneCell' = true := by
    intro h1 h2
    obtain ⟨h3, h4⟩ := one_rep hr h1
    rw [h2, h4]
    refine ⟨⟨rfl, fun k hk => ?_⟩, fun u hu => by simp at hu; rw [hu]; exact h3⟩
    have : k = 0 := by simp at hk; exact hk
    subst this
    simpa using hr
  cases x with
  | agg cs =>
    cases hr with
    | agg _ vs h1 h2 =>
      refine ⟨⟨h1, h2⟩, fun u hu => ?_⟩
      simp only [AV.cells, List.all_eq_true] at ha
      obtain ⟨k, hk, rfl⟩ := List.getElem_of_mem hu
      have hk' : k < cs.length := by simp [Value.cells] at hk; omega
      have h3 := h2 k hk'
      rw [List.getD_eq_getElem?_getD, List.getElem?_eq_getElem hk'] at h3
      simp [Array.getD_eq_getD_getElem?, show k < vs.size by omega] at h3
      exact (one_rep h3 (ha _ (List.getElem_mem _))).1
  | _ => exact key (by simpa [AV.cells] using ha) rfl

theorem splice_get {α : Type} (cs vs : List α) (off k : Nat) (hle : off + vs.length ≤ cs.length) :
    (cs.take off ++ vs ++ cs.drop (off + vs.length))[k]? = if k < off then cs[k]? else if k < off + vs.length then vs[k - off]? else cs[k]? := by
  have h3 : (cs.take off).length = off := by simp; omega
  rw [List.append_assoc]
  by_cases c1 : k < off
  · rw [List.getElem?_append_left (by omega), List.getElem?_take_of_lt c1, if_pos c1]
  · rw [List.getElem?_append_right (by omega), h3, if_neg c1]
    by_cases c2 : k < off + vs.length
    · rw [List.getElem?_append_left (by omega), if_pos c2]
    · rw [List.getElem?_append_right (by omega), List.getElem?_drop, if_neg c2, show off + vs.length + (k - off - vs.length) = k from by omega]

theorem splice_rep {cs vs : List AV} {a b : Array Value} {off : Nat} (h1 : LRep C n cs a) (h2 : LRep C n vs b) (hle : off + vs.length ≤ cs.length) :
    LRep C n (splice cs off vs) (a.toList.take off ++ b.toList ++ a.toList.drop (off + b.toList.length)).toArray := by
  obtain ⟨l1, r1⟩ := h1
  obtain ⟨l2, r2⟩ := h2
  refine ⟨by simp [splice]; omega, fun k hk => ?_⟩
  have hk' : k < cs.length := by simp [splice] at hk; omega
  rw [Array.getD_eq_getD_getElem?, List.getElem?_toArray, List.getD_eq_getElem?_getD]
  unfold splice
  rw [splice_get cs vs off k hle, splice_get a.toList b.toList off k (by simp; omega)]
  have e : b.toList.length = vs.length := by simp [l2]
  rw [e]
  by_cases c1 : k < off
  · rw [if_pos c1, if_pos c1]
    have := r1 k hk'
    simpa [List.getD_eq_getElem?_getD, Array.getD_eq_getD_getElem?] using this
  · rw [if_neg c1, if_neg c1]
    by_cases c2 : k < off + vs.length
    · rw [if_pos c2, if_pos c2]
      have := r2 (k - off) (by omega)
      simpa [List.getD_eq_getElem?_getD, Array.getD_eq_getD_getElem?] using this
    · rw [if_neg c2, if_neg c2]
      have := r1 k hk'
      simpa [List.getD_eq_getElem?_getD, Array.getD_eq_getD_getElem?] using this

theorem mapM_get {α β : Type} {f : α → Option β} : ∀ {l : List α} {r : List β}, l.mapM f = some r → ∀ (k : Nat) (x : α), l[k]? = some x → f x = r[k]?
  | [], r, _, k, x, hk => by simp at hk
  | y :: l, r, h, k, x, hk => by
    simp only [List.mapM_cons, Option.bind_eq_bind, Option.pure_def, Option.bind_eq_some_iff] at h
    obtain ⟨z, h1, rs, h2, h3⟩ := h
    cases h3
    cases k with
    | zero => simp at hk; subst hk; simpa using h1
    | succ k => simpa using mapM_get h2 k x (by simpa using hk)

theorem zero_rep (hT : T.Ok P) {t : Nat} {i : TI} (hi : T.info t = some i) :
    ∃ z, (zeroValue t).run P w = .ok z w ∧ LRep C n (i.zero.map .p) z.cells ∧ (isAggD i.desc = true → z = .agg z.cells) ∧ (isAggD i.desc = false → i.size = 1 ∧ z.cells = #[z]) ∧ z.cells.size = i.size := by
  obtain ⟨_, inf, z, h1, h2, h3, h4, h5, h6, h7, h8, h9⟩ := hT.info t i hi
  refine ⟨z, by simp [zeroValue, typeInfo, h1, h4], ⟨by simp; omega, fun k hk => ?_⟩, h8, h9, h5⟩
  have hk' : k < i.zero.length := by simpa using hk
  rw [mapp_getD hk']
  exact .p _ _ ((h7 k hk').1.mono (fun a v e => by cases e))

theorem fillS_rep (hT : T.Ok P) {s : Nat} {fs : Array Field} {places : List (Nat × Nat)} (hs : P.underlying s = some (.struct fs))
    (hp : fs.toList.mapM (fun f => (P.info? f.type).map fun i => (f.offset, i.size)) = some places) {u : Operand → AV} {e : Operand → Value} :
    ∀ (l : List (Nat × Operand)) (cs cs' : List AV) (a : Array Value), LRep C n cs a → (∀ p ∈ l, ARep C n (u p.2) (e p.2)) → fillS T s cs (l.map fun (i, x) => (i, u x)) = some cs' →
      ∃ a', Instr.fill (places.toArray[·]?) a (l.map fun (i, x) => (i, e x)) = some a' ∧ LRep C n cs' a'
  | [], cs, cs', a, h1, _, h2 => by simp [fillS] at h2; subst h2; exact ⟨a, rfl, h1⟩
  | (f, x) :: l, cs, cs', a, h1, hl, h2 => by
    simp only [List.map_cons, fillS, Option.bind_eq_some_iff] at h2
    obtain ⟨⟨off, i⟩, h3, h4⟩ := h2
    simp only at h4
    split at h4
    · rename_i hc
      obtain ⟨h5, h6, h7⟩ := hc
      have h5' : (u x).cells.length = i.size := h5
      have hlx : ARep C n (u x) (e x) := hl (f, x) (by simp)
      obtain ⟨fs', fd, g1, g2, g3, g4⟩ := fieldOf_inv hT h3
      rw [hs] at g1; cases g1
      obtain ⟨_, inf, z, g5, g6, _⟩ := hT.info _ _ g4
      have hpl : places.toArray[f]? = some (off, i.size) := by
        have := mapM_get hp f fd (by simpa using g2)
        simp only [g5, Option.map_some] at this
        rw [List.getElem?_toArray, ← this, g3, g6]
      obtain ⟨g7, g8⟩ := cells_rep hlx h7
      simp only [List.map_cons, Instr.fill, hpl]
      rw [if_neg (by rw [g7.1, h1.1]; simp; omega)]
      refine fillS_rep hT hs hp l _ cs' _ ?_ (fun p hp => hl p (by simp [hp])) h4
      have h10 := splice_rep (off := off) h1 g7 (by omega)
      have h11 := setCells_foldl (e x).cells.toList 0 off a (by rw [h1.1]; have := g7.1; simp; omega)
      simp only [Nat.add_zero] at h11
      rw [← h11] at h10
      rw [← Array.foldl_toList, Array.toList_zipIdx]
      exact h10
    · cases h4

theorem mapM_all {α β : Type} {f : α → Option β} : ∀ {l : List α}, (∀ x ∈ l, (f x).isSome = true) → ∃ r, l.mapM f = some r
  | [], _ => ⟨[], rfl⟩
  | x :: l, h => by
    obtain ⟨r, hr⟩ := mapM_all (fun y hy => h y (List.mem_cons_of_mem x hy))
    obtain ⟨y, hy⟩ := Option.isSome_iff_exists.1 (h x (by simp))
    exact ⟨y :: r, by simp [List.mapM_cons, hy, hr]⟩

theorem buildV_sound (hT : T.Ok P) {t : Nat} {l : List (Nat × Operand)} {u : Operand → AV} {e : Operand → Value} (hok : (buildV T t (l.map fun (i, x) => (i, u x))).ok = true)
    (hr : ∀ p ∈ l, ARep C n (u p.2) (e p.2)) :
    ∃ v, (Instr.build t (l.toArray.map fun (i, x) => (i, e x))).run P w = .ok v w ∧ ARep C n (buildV T t (l.map fun (i, x) => (i, u x))).v v := by
  unfold buildV at hok ⊢
  cases hi : T.info t with
  | none => simp [hi, O.bad] at hok
  | some i =>
    simp only [hi] at hok ⊢
    cases hd : i.desc <;> simp only [hd] at hok ⊢ <;> try (simp [O.bad] at hok; done)
    rename_i fs
    cases hf : fillS T t (i.zero.map .p) (l.map fun (i, x) => (i, u x)) with
    | none => simp [hf, O.of, O.bad] at hok
    | some cs' =>
      obtain ⟨hu, inf, z, h1, h2, h3, h4, h5, h6, h7, _⟩ := hT.info t i hi
      rw [hd] at hu
      obtain ⟨places, hp⟩ := mapM_all (f := fun f : Field => (P.info? f.type).map fun i => (f.offset, i.size)) (l := fs.toList) (fun x hx => by
        have := (hT.fields t i fs hi hd).1 x hx
        cases hx2 : P.info? x.type with
        | none => rw [hx2] at this; cases this
        | some y => simp)
      obtain ⟨a', h8, h9⟩ := fillS_rep hT hu hp l (i.zero.map .p) cs' z.cells ⟨by simp; omega, fun k hk => by
        have hk' : k < i.zero.length := by simpa using hk
        rw [mapp_getD hk']
        exact .p _ _ ((h7 k hk').1.mono (fun a v e => by cases e))⟩ hr hf
      have hb : P.built t (l.toArray.map fun (i, x) => (i, e x)).toList = some a' := by
        unfold Program.built
        simp only [h1, hu, h4, hp]
        simpa using h8
      exact ⟨.agg a', run_build w t _ a' hb, by simpa [O.of] using ARep.agg _ _ h9.1 h9.2⟩

theorem convV_sound (hT : T.Ok P) {s d : Nat} {x : AV} {v : Value} (hok : (convV T s d x).ok = true) (hr : ARep C n x v) :
    ∃ u, (convert s d v).run P w = .ok u w ∧ ARep C n (convV T s d x).v u := by
  unfold convV at hok ⊢
  split at hok
  · rename_i k k' m hd
    have h1 := descOf_inv hT hd
    have := int_inv hr; subst this
    cases hs : descOf T s with
    | none => simp [hs, O.bad] at hok
    | some sd =>
      have h2 := descOf_inv hT hs
      cases sd <;> simp only [hs] at hok ⊢ <;> try (simp [O.bad] at hok; done)
      exact ⟨_, by simp [convert, run_underlying h1, run_underlying h2, Conv.intToInt], mkint _ _⟩
  · rename_i b hd
    have h1 := descOf_inv hT hd
    have := str_inv hr; subst this
    cases hs : descOf T s with
    | none => simp [hs, O.bad] at hok
    | some sd =>
      have h2 := descOf_inv hT hs
      cases sd <;> simp only [hs] at hok ⊢ <;> try (simp [O.bad] at hok; done)
      exact ⟨_, by simp [convert, run_underlying h1, run_underlying h2], .p _ _ (.str _)⟩
  · simp [O.bad] at hok

theorem intBin_sound {op : BinOp} {k : IntKind} {a b : Int} (hok : (intBin op k a b).ok = true) : ∃ u,
    (match op with
      | .shl | .shr => Op.shift op k a k b
      | .add | .sub | .mul => Op.intArith op k a b
      | .quo | .rem => Op.intDiv op k a b
      | .and | .or | .xor | .andNot => Op.intBits op k a b
      | _ => Op.intCmp op a b : Sem Value).run P w = .ok u w ∧ ARep C n (intBin op k a b).v u := by
  cases op <;> simp only [intBin, decide_eq_true_eq] at hok ⊢ <;> first
    | exact ⟨_, rfl, mkint _ _⟩
    | exact ⟨_, rfl, mkbool _⟩
    | exact ⟨_, by simp [Op.intDiv, hok], mkint _ _⟩
    | exact ⟨_, by simp only [Op.shift]; rw [if_neg (by omega)]; rfl, mkint _ _⟩

theorem shift_kind (op : BinOp) (k j j' : IntKind) (a b : Int) : Op.shift op k a j b = Op.shift op k a j' b := rfl

theorem strBin_sound {op : BinOp} {a b : ByteArray} (hok : (strBin op a b).ok = true) : ∃ u, (Op.stringOp op a b).run P w = .ok u w ∧ ARep C n (strBin op a b).v u := by
  cases op <;> simp only [strBin, decide_eq_true_eq, O.bad] at hok ⊢ <;> first
    | exact ⟨_, rfl, mkbool _⟩
    | (cases hok; done)
    | (refine ⟨.string (a ++ b), ?_, .p _ _ (.str _)⟩
       simp only [Op.stringOp]
       rw [if_neg (by simp [IntKind.max, IntKind.signed, IntKind.bits]; omega)]; rfl)

end
end Go.En
namespace Go.En
open Go.RowKit

section
variable {P : Program} {T : Tab} {F : Base} {w : World} {C : Cx} {h rd : Hp} {n : Nat}

theorem binV_sound {t : Nat} {d : TypeDesc} {op : BinOp} {ox oy : Operand} {x y : AV} {a b : Value} (hd : P.underlying t = some d) (hok : (binV d op x y).ok = true) (hx : ARep C n x a) (hy : ARep C n y b) :
    ∃ u, (do eqGuard op t ox oy a b; binOp op t a b : Sem Value).run P w = .ok u w ∧ ARep C n (binV d op x y).v u := by
  unfold binV at hok ⊢
  split at hok
  · rename_i k m k' m'
    have := int_inv hx; subst this
    have := int_inv hy; subst this
    have hg : (eqGuard op t ox oy (.int k m) (.int k' m')).run P w = .ok () w := by unfold eqGuard; split <;> simp
    have key : ∀ (r : O), r.ok = true → (op ≠ .shl ∧ op ≠ .shr → k = k') → r = intBin op k m m' →
        ∃ u, (do eqGuard op t ox oy (.int k m) (.int k' m'); binOp op t (.int k m) (.int k' m') : Sem Value).run P w = .ok u w ∧ ARep C n r.v u := by
      intro r hr hk he
      subst he
      obtain ⟨u, h1, h2⟩ := intBin_sound (P := P) (w := w) (C := C) (n := n) hr
      refine ⟨u, ?_, h2⟩
      simp only [Sem.run_bind, hg, Result.andThen_ok]
      cases op <;> first
        | exact h1
        | (have := hk ⟨by simp, by simp⟩; subst this; simpa [binOp] using h1)
    cases op <;> simp only at hok ⊢ <;> first
      | exact key _ hok (fun h => absurd rfl h.1) rfl
      | exact key _ hok (fun h => absurd rfl h.2) rfl
      | (by_cases hk : k = k'
         · rw [if_pos hk] at hok ⊢; exact key _ hok (fun _ => hk) rfl
         · rw [if_neg hk] at hok; simp [O.bad] at hok)
  · rename_i s s'
    have := str_inv hx; subst this
    have := str_inv hy; subst this
    have hg : (eqGuard op t ox oy (.string s) (.string s')).run P w = .ok () w := by unfold eqGuard; split <;> simp
    obtain ⟨u, h1, h2⟩ := strBin_sound (P := P) (w := w) (C := C) (n := n) hok
    refine ⟨u, ?_, h2⟩
    simp only [Sem.run_bind, hg, Result.andThen_ok]
    cases op <;> exact h1
  · rename_i p q
    have := bool_inv hx; subst this
    have := bool_inv hy; subst this
    have hg : (eqGuard op t ox oy (.bool p) (.bool q)).run P w = .ok () w := by unfold eqGuard; split <;> simp
    have he : (Op.equal t (.bool p) (.bool q)).run P w = .ok (p == q) w := by
      cases d <;> first
        | exact run_equalIn_bool (P := P) w 9999 t p q hd
        | (cases op <;> simp [O.bad] at hok)
    have e1 : binOp .eql t (.bool p) (.bool q) = (do pure (.bool (← Op.equal t (.bool p) (.bool q)))) := rfl
    have e2 : binOp .neq t (.bool p) (.bool q) = (do pure (.bool (!(← Op.equal t (.bool p) (.bool q))))) := rfl
    split at hok
    · exact ⟨_, by rw [e1]; simp [hg, he], mkbool _⟩
    · exact ⟨_, by rw [e2]; simp [hg, he], mkbool _⟩
    · simp [O.bad] at hok
  · simp [O.bad] at hok

theorem unV_sound {op : UnOp} {x : AV} {a : Value} (hok : (unV op x).ok = true) (hx : ARep C n x a) : ∃ u, (Op.unary op a).run P w = .ok u w ∧ ARep C n (unV op x).v u := by
  unfold unV at hok ⊢
  split at hok
  · have := bool_inv hx; subst this; exact ⟨_, rfl, mkbool _⟩
  · have := int_inv hx; subst this; exact ⟨_, rfl, mkint _ _⟩
  · have := int_inv hx; subst this; exact ⟨_, rfl, mkint _ _⟩
  · simp [O.bad] at hok

theorem eqD_sound (hT : T.Ok P) {t : Nat} {x y : AV} {a b : Value} {r : Bool} {d : Nat} (he : eqD (descOf T t) x y = some r) (hx : ARep C n x a) (hy : ARep C n y b) :
    (Op.equalIn (d + 1) t a b).run P w = .ok r w := by
  cases hd : descOf T t with
  | none => rw [hd] at he; cases he
  | some td =>
    have h1 := descOf_inv hT hd
    rw [hd] at he
    unfold eqD at he
    split at he
    · rename_i k0 k m k' m' heq
      cases heq
      have := int_inv hx; subst this
      have := int_inv hy; subst this
      split at he
      · cases he; simp [Op.equalIn, run_underlying h1, *]
      · cases he
    · rename_i p q heq
      cases heq
      have := bool_inv hx; subst this
      have := bool_inv hy; subst this
      cases he; simp [Op.equalIn, run_underlying h1]
    · rename_i p q heq
      cases heq
      have := str_inv hx; subst this
      have := str_inv hy; subst this
      cases he
      rw [← beq_toListBytes]
      simp [Op.equalIn, run_underlying h1]
    · cases he

theorem plain_part (hT : T.Ok P) {t m : Nat} {vs : Array Value} {td : TypeDesc} (hd : descOf T t = some td) (hpl : td = .bool ∨ td = .string ∨ ∃ k, td = .int k) (hlt : m < vs.size) :
    (part t vs m).run P w = .ok (vs.getD m Go.undef) w := by
  unfold descOf at hd
  cases hi : T.info t with
  | none => rw [hi] at hd; cases hd
  | some i =>
    rw [hi] at hd
    have hagg := run_isAgg (w := w) hT hi
    have hd' : i.desc = td := by simpa using hd
    have ha : isAggD i.desc = false := by rw [hd']; rcases hpl with rfl | rfl | ⟨k, rfl⟩ <;> rfl
    obtain ⟨u, hu⟩ : ∃ u, vs[m]? = some u := ⟨_, getD_some hlt⟩
    simp [part, hagg, ha, hu, Array.getD_eq_getD_getElem?]

theorem eqFs_sound (hT : T.Ok P) {d : Nat} : ∀ (fs : List Field) (m : Nat) (xs ys : List AV) (as bs : Array Value) (r : Bool), eqFs T m fs xs ys = some r →
    as.size = m + xs.length → bs.size = m + ys.length → (∀ k, k < xs.length → ARep C n (xs.getD k .undef) (as.getD (m + k) Go.undef)) → (∀ k, k < ys.length → ARep C n (ys.getD k .undef) (bs.getD (m + k) Go.undef)) →
    (Op.eqFields (d + 1) as bs fs).run P w = .ok r w
  | [], m, [], [], as, bs, r, he, _, _, _, _ => by simp [eqFs] at he; subst he; rfl
  | [], m, x :: xs, ys, as, bs, r, he, _, _, _, _ => by simp [eqFs] at he
  | [], m, [], y :: ys, as, bs, r, he, _, _, _, _ => by simp [eqFs] at he
  | f :: fs, m, [], ys, as, bs, r, he, _, _, _, _ => by simp [eqFs] at he
  | f :: fs, m, x :: xs, [], as, bs, r, he, _, _, _, _ => by simp [eqFs] at he
  | f :: fs, m, x :: xs, y :: ys, as, bs, r, he, h1, h2, h3, h4 => by
    simp only [eqFs] at he
    split at he
    · rename_i hc
      obtain ⟨hn, ho⟩ := hc
      simp only [Option.bind_eq_some_iff, Option.map_eq_some_iff] at he
      obtain ⟨b, h5, c, h6, rfl⟩ := he
      have hx := h3 0 (by simp)
      have hy := h4 0 (by simp)
      simp at hx hy h1 h2
      have hdd : ∃ td, descOf T f.type = some td ∧ (td = .bool ∨ td = .string ∨ ∃ k, td = .int k) := by
        cases hd : descOf T f.type with
        | none => rw [hd] at h5; simp [eqD] at h5
        | some td =>
          refine ⟨td, rfl, ?_⟩
          rw [hd] at h5
          cases td <;> first | exact .inl rfl | exact .inr (.inl rfl) | exact .inr (.inr ⟨_, rfl⟩) | (simp [eqD] at h5)
      obtain ⟨td, hd, hpl⟩ := hdd
      have p1 := plain_part (P := P) (w := w) (vs := as) (m := m) hT hd hpl (by omega)
      have p2 := plain_part (P := P) (w := w) (vs := bs) (m := m) hT hd hpl (by omega)
      have ih := eqFs_sound (d := d) hT fs (m + 1) xs ys as bs c h6 (by omega) (by omega)
        (fun k hk => by have := h3 (k + 1) (by simpa using hk); simpa [Nat.add_assoc, Nat.add_comm 1] using this)
        (fun k hk => by have := h4 (k + 1) (by simpa using hk); simpa [Nat.add_assoc, Nat.add_comm 1] using this)
      have hoff : f.offset = m := ho
      rw [← hoff] at p1 p2 hx hy
      have h8 := eqD_sound (P := P) (w := w) (d := d) hT h5 hx hy
      rw [Op.eqFields, if_pos hn]
      simp only [Sem.run_bind, p1, p2, Result.andThen_ok, Sem.run_ite, Sem.run_pure]
      cases b <;> simp [h8, ih]
    · cases he

theorem eqAgg_sound (hT : T.Ok P) {t : Nat} {fs : Array Field} {xs ys : List AV} {as bs : Array Value} {ox oy : Operand} {op : BinOp} {r : Bool} (hd : descOf T t = some (.struct fs))
    (he : eqFs T 0 fs.toList xs ys = some r) (hx : LRep C n xs as) (hy : LRep C n ys bs) (hop : op = .eql ∨ op = .neq) :
    (do eqGuard op t ox oy (.agg as) (.agg bs); binOp op t (.agg as) (.agg bs) : Sem Value).run P w = .ok (.bool (if op = .eql then r else !r)) w := by
  have h1 := descOf_inv hT hd
  have hst : P.stoodInHeld t = false := by
    unfold descOf at hd
    cases hi : T.info t with
    | none => rw [hi] at hd; cases hd
    | some i => rw [hi] at hd; exact (hT.fields t i fs hi (by simpa using hd)).2
  have hfo : P.fieldsOf t = fs := by simp [Program.fieldsOf, h1]
  have h2 := run_equalIn_struct (P := P) w 9999 t as bs (by rw [hfo]; exact h1) hst
  rw [hfo] at h2
  have h3 := eqFs_sound (P := P) (w := w) (C := C) (n := n) (d := 9998) hT fs.toList 0 xs ys as bs r he (by rw [hx.1]; simp) (by rw [hy.1]; simp) (fun k hk => by simpa using hx.2 k hk) (fun k hk => by simpa using hy.2 k hk)
  have heq : (Op.equal t (.agg as) (.agg bs)).run P w = .ok r w := h2.trans h3
  have hgt : P.eqGuardType P.depth t = false := by
    have hdep : ∃ d, P.depth = d + 1 + 1 := ⟨2 * (P.types.size + Made.depth), rfl⟩
    obtain ⟨d, hdd⟩ := hdep
    rw [hdd]
    rw [Program.eqGuardType, h1]
    have plain : ∀ (l : List Field) (m : Nat) (xs ys : List AV) (r : Bool), eqFs T m l xs ys = some r → (l.any fun f => f.name != "_" && P.eqGuardType (d + 1) f.type) = false := by
      intro l
      induction l with
      | nil => intros; rfl
      | cons f l ih =>
        intro m xs ys r he
        cases xs with
        | nil => simp [eqFs] at he
        | cons x xs =>
          cases ys with
          | nil => simp [eqFs] at he
          | cons y ys =>
            simp only [eqFs] at he
            split at he
            · simp only [Option.bind_eq_some_iff, Option.map_eq_some_iff] at he
              obtain ⟨b, h5, c, h6, rfl⟩ := he
              simp only [List.any_cons, ih _ _ _ _ h6, Bool.or_false, Bool.and_eq_false_iff]
              right
              cases hd : descOf T f.type with
              | none => rw [hd] at h5; simp [eqD] at h5
              | some td =>
                have h9 := descOf_inv hT hd
                rw [hd] at h5
                cases td <;> first | (simp [Program.eqGuardType, h9]; done) | (simp [eqD] at h5)
            · cases he
    show (fs.any fun f => f.name != "_" && P.eqGuardType (d + 1) f.type) = false
    rw [← Array.any_toList]
    exact plain fs.toList 0 xs ys r he
  have hg : (eqGuard op t ox oy (.agg as) (.agg bs)).run P w = .ok () w := by
    unfold eqGuard
    rcases hop with rfl | rfl <;> simp [hgt]
  have e1 : binOp .eql t (.agg as) (.agg bs) = (do pure (.bool (← Op.equal t (.agg as) (.agg bs)))) := rfl
  have e2 : binOp .neq t (.agg as) (.agg bs) = (do pure (.bool (!(← Op.equal t (.agg as) (.agg bs))))) := rfl
  rcases hop with rfl | rfl
  · rw [e1]; simp [hg, heq]
  · rw [e2]; simp [hg, heq]

theorem evs_rep {tm : Tm} {a : Act} (ht : ∀ i, ARep C n (look tm i) (a.tmps.getD i Go.undef)) {l : List Operand} (hk : eks true tm l = true) :
    ∀ k, k < l.length → ARep C n ((evs tm l).getD k .undef) ((l.map a.eval).getD k Go.undef) := by
  intro k hk'
  simp only [eks, List.all_eq_true] at hk
  have h1 := hk _ (List.getElem_mem hk')
  have h2 := opd (a := a) ht h1
  simpa [evs, List.getD_eq_getElem?_getD, hk'] using h2

theorem pickV_sound {b : Bool} {x y : AV} {u v : Value} (hok : (pickV b x y).ok = true) (hx : ARep C n x u) (hy : ARep C n y v) : ARep C n (pickV b x y).v (if b then u else v) := by
  have hxv : uk true x = true → ARep C n (uv x) u := uv_rep hx
  have hyv : uk true y = true → ARep C n (uv y) v := uv_rep hy
  revert hok hxv hyv
  unfold pickV
  generalize uv x = x'
  generalize uv y = y'
  split
  · intro hok hxv hyv
    simp only [Bool.and_eq_true, Bool.or_eq_true, Bool.not_eq_true'] at hok
    cases b
    · simpa using hyv (by simpa using hok.2)
    · simpa using hxv (by simpa using hok.1)
  · intro hok hxv hyv
    cases b
    · simpa using hyv (by simpa using hok)
    · simpa using hxv (by simpa using hok)

theorem minV_sound {mx : Bool} {l : List AV} {vs : List Value} {x : AV} (he : minV mx l = some x) (hl : vs.length = l.length) (hr : ∀ k, k < l.length → ARep C n (l.getD k .undef) (vs.getD k Go.undef)) :
    ∃ u, (if mx then Builtin.max_ #[] 0 vs.toArray else Builtin.min_ #[] 0 vs.toArray : Sem Value).run P w = .ok u w ∧ ARep C n x u := by
  unfold minV at he
  split at he <;> cases he
  · match vs, hl with
    | [v], _ =>
      have := int_inv (by simpa using hr 0 (by simp)); subst this
      cases mx <;> exact ⟨_, rfl, mkint _ _⟩
  · match vs, hl with
    | [v, u], _ =>
      have := int_inv (by simpa using hr 0 (by simp)); subst this
      have := int_inv (by simpa using hr 1 (by simp)); subst this
      cases mx
      · exact ⟨_, by simp [Builtin.min_, Builtin.min2], mkint _ _⟩
      · exact ⟨_, by simp [Builtin.max_, Builtin.max2], mkint _ _⟩

end
end Go.En
set_option linter.unusedSimpArgs false
namespace Go.En
open Go.RowKit Go.MapKept

section
variable {P : Program} {T : Tab} {F : Base} {w : World} {C : Cx} {h rd : Hp} {n : Nat}

theorem mapDesc_inv (hT : T.Ok P) {t : Nat} {kd : TypeDesc} {i : TI} (hd : mapDesc T t = some (kd, i)) : ∃ k e, P.underlying t = some (.map k e) ∧ P.underlying k = some kd ∧ T.info e = some i := by
  unfold mapDesc at hd
  split at hd
  · rename_i k e h1
    simp only [Option.bind_eq_some_iff, Option.map_eq_some_iff] at hd
    obtain ⟨d, h2, j, h3, h4⟩ := hd
    cases h4
    exact ⟨k, e, descOf_inv hT h1, descOf_inv hT h2, h3⟩
  · cases hd

theorem keyOk_isKey {M : Addr → Option Value} {d : TypeDesc} {k : PV} {v : Value} (hk : keyOk d k = true) (hr : PRep M k v) : IsKey d v := by
  unfold keyOk at hk
  split at hk
  · cases hr with | int => exact (by simpa using hk : _ = _)
  · cases hr; exact trivial
  · cases hr; exact trivial
  · cases hk

theorem eqC_same {M : Addr → Option Value} {d : TypeDesc} {k k' : PV} {v v' : Value} {b : Bool} (hb : eqC k k' = some b) (hk : keyOk d k = true) (hr : PRep M k v) (hk' : keyOk d k' = true) (hr' : PRep M k' v') :
    Instr.sameNow d v v' = some b := by
  cases d <;> try (simp [keyOk] at hk; done)
  · cases k <;> try (simp [keyOk] at hk; done)
    cases k' <;> try (simp [keyOk] at hk'; done)
    cases hr; cases hr'
    simpa [eqC, Instr.sameNow] using hb
  · cases k <;> try (simp [keyOk] at hk; done)
    cases k' <;> try (simp [keyOk] at hk'; done)
    cases hr; cases hr'
    simpa [eqC, Instr.sameNow] using hb
  · cases k <;> try (simp [keyOk] at hk; done)
    cases k' <;> try (simp [keyOk] at hk'; done)
    cases hr; cases hr'
    simpa [eqC, Instr.sameNow] using hb

/-- Entries of a map. -/
def MRep (M : Addr → Option Value) : List (PV × PV) → List MapEntry → Prop
  | [], [] => True
  | p :: r, e :: l => PRep M p.1 e.key ∧ PRep M p.2 e.val ∧ MRep M r l
  | _, _ => False

theorem MRep.length {M : Addr → Option Value} : ∀ {es : List (PV × PV)} {l : List MapEntry}, MRep M es l → l.length = es.length
  | [], [], _ => rfl
  | _ :: _, _ :: _, hr => by simp [MRep.length hr.2.2]
  | [], _ :: _, hr => hr.elim
  | _ :: _, [], hr => hr.elim

theorem MRep.of {M : Addr → Option Value} : ∀ {es : List (PV × PV)} {l : List MapEntry}, l.length = es.length → (∀ (k : Nat) (e : MapEntry), l[k]? = some e → ∃ p : PV × PV, es[k]? = some p ∧ PRep M p.1 e.key ∧ PRep M p.2 e.val) → MRep M es l
  | [], [], _, _ => trivial
  | p :: r, e :: l, h1, h2 => by
    obtain ⟨q, h3, h4, h5⟩ := h2 0 e rfl
    cases h3
    exact ⟨h4, h5, MRep.of (by simpa using h1) (fun k e' hk => by simpa using h2 (k + 1) e' (by simpa using hk))⟩
  | [], _ :: _, h1, _ => by simp at h1
  | _ :: _, [], h1, _ => by simp at h1

theorem MRep.get {M : Addr → Option Value} : ∀ {es : List (PV × PV)} {l : List MapEntry}, MRep M es l → ∀ (k : Nat) (e : MapEntry), l[k]? = some e → ∃ p : PV × PV, es[k]? = some p ∧ PRep M p.1 e.key ∧ PRep M p.2 e.val
  | [], [], _, k, e, hk => by simp at hk
  | p :: r, x :: l, hr, 0, e, hk => by cases hk; exact ⟨p, rfl, hr.1, hr.2.1⟩
  | p :: r, x :: l, hr, k + 1, e, hk => by simpa using hr.2.2.get k e (by simpa using hk)
  | [], _ :: _, hr, _, _, _ => hr.elim
  | _ :: _, [], hr, _, _, _ => hr.elim

theorem keysOk_cons {d : TypeDesc} {p : PV × PV} {es : List (PV × PV)} (hk : keysOk d (p :: es) = true) : keyOk d p.1 = true ∧ keysOk d es = true := by simpa [keysOk] using hk

theorem mget_rep {M : Addr → Option Value} {d : TypeDesc} {k : PV} {v : Value} (hk : keyOk d k = true) (hr : PRep M k v) : ∀ {es : List (PV × PV)} {l : List MapEntry} {r : Option PV} (i : Nat), MRep M es l → keysOk d es = true →
    mget k es = some r → (r = none ∧ Instr.findNow d v l i = some none) ∨ ∃ x j u, r = some x ∧ Instr.findNow d v l i = some (some (j, u)) ∧ PRep M x u
  | [], [], r, i, _, _, hg => by simp [mget] at hg; exact .inl ⟨hg.symm, rfl⟩
  | p :: es, e :: l, r, i, hm, hks, hg => by
    obtain ⟨h1, h2⟩ := keysOk_cons hks
    simp only [mget, Option.bind_eq_some_iff] at hg
    obtain ⟨b, h3, h4⟩ := hg
    have h5 := eqC_same h3 hk hr h1 hm.1
    cases b with
    | true =>
      simp at h4; subst h4
      exact .inr ⟨p.2, i, e.val, rfl, by simp [Instr.findNow, h5], hm.2.1⟩
    | false =>
      simp at h4
      rcases mget_rep hk hr (i + 1) hm.2.2 h2 h4 with ⟨h6, h7⟩ | ⟨x, j, u, h6, h7, h8⟩
      · exact .inl ⟨h6, by simp [Instr.findNow, h5, h7]⟩
      · exact .inr ⟨x, j, u, h6, by simp [Instr.findNow, h5, h7], h8⟩
  | [], _ :: _, _, _, hm, _, _ => hm.elim
  | _ :: _, [], _, _, hm, _, _ => hm.elim

theorem keys_all {M : Addr → Option Value} {d : TypeDesc} : ∀ {es : List (PV × PV)} {l : List MapEntry}, MRep M es l → keysOk d es = true → ∀ x ∈ l, IsKey d x.key
  | [], [], _, _, x, hx => by cases hx
  | p :: es, e :: l, hm, hks, x, hx => by
    obtain ⟨h1, h2⟩ := keysOk_cons hks
    cases hx with
    | head => exact keyOk_isKey h1 hm.1
    | tail _ hx => exact keys_all hm.2.2 h2 x hx
  | [], _ :: _, hm, _, _, _ => hm.elim
  | _ :: _, [], hm, _, _, _ => hm.elim

theorem mput_rep {M : Addr → Option Value} {d : TypeDesc} {k x : PV} {v u : Value} (hk : keyOk d k = true) (hr : PRep M k v) (hx : PRep M x u) : ∀ {es es' : List (PV × PV)} {l : List MapEntry} (i : Nat), MRep M es l → keysOk d es = true →
    mput k x es = some es' → (Instr.findNow d v l i = some none ∧ ∀ born, MRep M es' (l ++ [⟨v, u, born⟩])) ∨
      ∃ j e, Instr.findNow d v l i = some (some (i + j, e.val)) ∧ l[j]? = some e ∧ e.key = v ∧ MRep M es' (l.set j { e with key := v, val := u })
  | [], es', [], i, _, _, hg => by simp [mput] at hg; subst hg; exact .inl ⟨rfl, fun born => ⟨hr, hx, trivial⟩⟩
  | p :: es, es', e :: l, i, hm, hks, hg => by
    obtain ⟨h1, h2⟩ := keysOk_cons hks
    simp only [mput, Option.bind_eq_some_iff] at hg
    obtain ⟨b, h3, h4⟩ := hg
    have h5 := eqC_same h3 hk hr h1 hm.1
    cases b with
    | true =>
      simp at h4; subst h4
      obtain ⟨b', h6, h7⟩ := sameNow_of_keys (keyOk_isKey hk hr) (keyOk_isKey h1 hm.1)
      rw [h5] at h6; cases h6
      exact .inr ⟨0, e, by simp [Instr.findNow, h5], rfl, (h7.1 rfl).symm, ⟨hr, hx, hm.2.2⟩⟩
    | false =>
      simp only [Bool.false_eq_true, if_false, Option.map_eq_some_iff] at h4
      obtain ⟨es2, h4, rfl⟩ := h4
      rcases mput_rep hk hr hx (i + 1) hm.2.2 h2 h4 with ⟨h6, h7⟩ | ⟨j, e', h6, h7, h8, h9⟩
      · exact .inl ⟨by simp [Instr.findNow, h5, h6], fun born => ⟨hm.1, hm.2.1, h7 born⟩⟩
      · exact .inr ⟨j + 1, e', by simp [Instr.findNow, h5, h6]; omega, by simpa using h7, h8, ⟨hm.1, hm.2.1, h9⟩⟩
  | [], _, _ :: _, _, hm, _, _ => hm.elim
  | _ :: _, _, [], _, hm, _, _ => hm.elim

theorem mdel_rep {M : Addr → Option Value} {d : TypeDesc} {k : PV} {v : Value} (hk : keyOk d k = true) (hr : PRep M k v) : ∀ {es es' : List (PV × PV)} {l : List MapEntry} (i : Nat), MRep M es l → keysOk d es = true →
    mdel k es = some es' → (Instr.findNow d v l i = some none ∧ MRep M es' l) ∨ ∃ j u, Instr.findNow d v l i = some (some (i + j, u)) ∧ j < l.length ∧ MRep M es' (l.eraseIdx j)
  | [], es', [], i, _, _, hg => by simp [mdel] at hg; subst hg; exact .inl ⟨rfl, trivial⟩
  | p :: es, es', e :: l, i, hm, hks, hg => by
    obtain ⟨h1, h2⟩ := keysOk_cons hks
    simp only [mdel, Option.bind_eq_some_iff] at hg
    obtain ⟨b, h3, h4⟩ := hg
    have h5 := eqC_same h3 hk hr h1 hm.1
    cases b with
    | true =>
      simp at h4; subst h4
      exact .inr ⟨0, e.val, by simp [Instr.findNow, h5], by simp, by simpa using hm.2.2⟩
    | false =>
      simp only [Bool.false_eq_true, if_false, Option.map_eq_some_iff] at h4
      obtain ⟨es2, h4, rfl⟩ := h4
      rcases mdel_rep hk hr (i + 1) hm.2.2 h2 h4 with ⟨h6, h7⟩ | ⟨j, u, h6, h7, h8⟩
      · exact .inl ⟨by simp [Instr.findNow, h5, h6], ⟨hm.1, hm.2.1, h7⟩⟩
      · exact .inr ⟨j + 1, u, by simp [Instr.findNow, h5, h6]; omega, by simpa using h7, by simpa using ⟨hm.1, hm.2.1, h8⟩⟩
  | [], _, _ :: _, _, hm, _, _ => hm.elim
  | _ :: _, _, [], _, hm, _, _ => hm.elim

theorem map_live (hm : Mem F C h w) {id : Nat} {es : List (PV × PV)} {v : Value} (ho : h.at id = .map es) (hr : ARep C h.length (.map id) v) :
    ∃ r en clock, v = .map (some r) ∧ id < h.length ∧ C.μ id = .map r ∧ w.heap[r]? = some (.map en clock) ∧ MRep C.M es en.toList := by
  cases hr with
  | map _ r h1 h2 =>
    have h3 := hm.objs id h1
    rw [ho, h2] at h3
    obtain ⟨en, clock, h4, h5, h6⟩ := h3
    exact ⟨r, en, clock, rfl, h1, h2, h4, MRep.of (by simpa using h5) (fun k e hk => h6 k e (by simpa using hk))⟩

theorem lookupV_sound (hT : T.Ok P) (hm : Mem F C h w) (hrd : ∀ id, rd.at id ≠ .dead → h.at id = rd.at id) {t : Nat} {m k : AV} {c : Bool} {mv kv : Value} (hok : (lookupV T rd t m k c).ok = true)
    (hx : ARep C h.length m mv) (hk : ARep C h.length k kv) : ∃ u, (Instr.lookup t mv kv c).run P w = .ok u w ∧ ARep C h.length (lookupV T rd t m k c).v u := by
  unfold lookupV at hok ⊢
  split at hok
  · rename_i id k kd i hd
    split at hok
    · rename_i es ho
      split at hok
      · rename_i hc
        obtain ⟨h1, h2, h3⟩ := hc
        obtain ⟨kt, et, g1, g2, g3⟩ := mapDesc_inv hT hd
        have ho' : h.at id = .map es := by rw [hrd id (by rw [ho]; simp), ho]
        obtain ⟨r, en, clock, rfl, _, _, g4, g5⟩ := map_live hm ho' hx
        have hkr := p_inv hk
        have hik := keyOk_isKey h1 hkr
        obtain ⟨_, inf, z, z1, z2, _, z3, z4, z5, z6, _, z7⟩ := hT.info et i g3
        split at hok
        · rename_i v he
          rcases mget_rep h1 hkr 0 g5 h2 he with ⟨e, _⟩ | ⟨x, j, u, e, h4, h5⟩
          · cases e
          cases e
          simp only [ho, h1, h2, h3, he, and_self, if_true]
          cases c with
          | true => exact ⟨.tuple #[u, .bool true], by simp [Instr.lookup, run_underlying g1, MapKept.run_getObj_map g4, run_checkKey g2 hik, run_findKey g2 h4], .tup _ _ rfl (fun k hk' => by
              match k, hk' with
              | 0, _ => exact .p _ _ h5
              | 1, _ => exact mkbool true)⟩
          | false => exact ⟨u, by simp [Instr.lookup, run_underlying g1, MapKept.run_getObj_map g4, run_checkKey g2 hik, run_findKey g2 h4], .p _ _ h5⟩
        · rename_i z' he hz
          rcases mget_rep h1 hkr 0 g5 h2 he with ⟨_, h4⟩ | ⟨x, j, u, e, _⟩
          · have hzv : (zeroValue et).run P w = .ok z w := by simp [zeroValue, typeInfo, z1, z3]
            have hcz := (z7 h3).2
            have hzr : PRep C.M z' z := by
              have := (z6 0 (by rw [hz]; simp)).1
              rw [hz, hcz] at this
              exact PRep.mono (fun _ _ e => by cases e) this
            simp only [ho, h1, h2, h3, he, hz, and_self, if_true]
            cases c with
            | true => exact ⟨.tuple #[z, .bool false], by simp [Instr.lookup, run_underlying g1, MapKept.run_getObj_map g4, run_checkKey g2 hik, run_findKey g2 h4, hzv], .tup _ _ rfl (fun k hk' => by
                match k, hk' with
                | 0, _ => exact .p _ _ hzr
                | 1, _ => exact mkbool false)⟩
            | false => exact ⟨z, by simp [Instr.lookup, run_underlying g1, MapKept.run_getObj_map g4, run_checkKey g2 hik, run_findKey g2 h4, hzv], .p _ _ hzr⟩
          · cases e
        · cases hok
      · cases hok
    · cases hok
  · cases hok

end
end Go.En
namespace Go.En
open Go.RowKit

section
variable {P : Program} {T : Tab} {F : Base} {w : World} {C : Cx} {h rd : Hp} {n : Nat}

/-- What an operation that yields a value comes to. -/
def Gives (P : Program) (a : Act) (o : Oper) (w : World) (C : Cx) (n : Nat) (x : AV) : Prop := ∃ v, (execOp a.eval o).run P w = .ok (.value v) w ∧ ARep C n x v

theorem gives_of {a : Act} {o : Oper} {s : Sem Value} {x : AV} (he : execOp a.eval o = (do pure (.value (← s)))) (hs : ∃ u, s.run P w = .ok u w ∧ ARep C n x u) : Gives P a o w C n x := by
  obtain ⟨u, h1, h2⟩ := hs
  exact ⟨u, by rw [he]; simp [h1], h2⟩

theorem eks1 {tm : Tm} {x : Operand} (hk : eks true tm [x] = true) : uk true (evo tm x) = true := by simpa [eks] using hk
theorem eks2 {tm : Tm} {x y : Operand} (hk : eks true tm [x, y] = true) : uk true (evo tm x) = true ∧ uk true (evo tm y) = true := by simpa [eks] using hk

theorem opV_sound (hT : T.Ok P) (hm : Mem F C h w) (hrd : ∀ id, rd.at id ≠ .dead → h.at id = rd.at id) {tm : Tm} {a : Act} (ht : ∀ i, ARep C h.length (look tm i) (a.tmps.getD i Go.undef))
    {o : Oper} {r : O} (h1 : opV T rd tm o.op = some r) (hok : r.ok = true) (hk : opK true tm o.op = true) : Gives P a o w C h.length r.v := by
  obtain ⟨dst, op, type, pos, after, guard⟩ := o
  cases op <;> simp only [opV] at h1 <;> try (cases h1; done)
  case move x =>
    cases h1
    exact ⟨_, rfl, opd ht (eks1 hk)⟩
  case assign x =>
    cases h1
    exact ⟨_, rfl, opd ht (eks1 hk)⟩
  case pick c x y =>
    have h2 := opd ht (show uk true (evo tm c) = true from hk)
    split at h1
    · rename_i b hb
      cases h1
      rw [hb] at h2
      have h3 := bool_inv h2
      refine ⟨_, ?_, pickV_sound hok (evo_rep ht x) (evo_rep ht y)⟩
      simp [execOp, h3, asBool]
    · cases h1
  case load t x =>
    cases h1
    exact gives_of rfl (loadV_sound hT hm hrd hok (opd ht (eks1 hk)))
  case nilCheck x =>
    have h2 := opd ht (eks1 hk)
    generalize hv : a.eval x = v at h2
    split at h1 <;> cases h1
    · rename_i e
      rw [e] at h2
      cases p_inv h2 with
      | ptr _ _ B o f h3 h4 => exact ⟨_, by simp only [execOp, hv]; rfl, .p _ _ (.ptr _ _ B o f h3 h4)⟩
    · rename_i e
      rw [e] at h2
      cases h2 with
      | ref _ _ B h3 h4 => exact ⟨_, by simp only [execOp, hv]; rfl, .ref _ _ B h3 h4⟩
    · rename_i e
      rw [e] at h2
      cases h2 with
      | elt _ _ _ _ B o cap sz h3 h4 => exact ⟨_, by simp only [execOp, hv]; rfl, .elt _ _ _ _ B o cap sz h3 h4⟩
      | eltS _ _ _ _ g' B o h3 h4 h5 => exact ⟨_, by simp only [execOp, hv]; rfl, .eltS _ _ _ _ g' B o h3 h4 h5⟩
  case binOp op t x y yt =>
    obtain ⟨hk1, hk2⟩ := eks2 hk
    have hx := opd ht hk1
    have hy := opd ht hk2
    split at h1
    · rename_i xs ys e1 e2
      rw [e1] at hx; rw [e2] at hy
      generalize hv1 : a.eval x = v1 at hx
      generalize hv2 : a.eval y = v2 at hy
      cases hx with
      | agg _ as h3 h4 =>
        cases hy with
        | agg _ bs h5 h6 =>
          split at h1
          · rename_i fs hd
            cases h1
            cases he : eqFs T 0 fs.toList xs ys with
            | none => rw [he] at hok; simp [O.of, O.bad] at hok
            | some b =>
              refine gives_of rfl ⟨_, by rw [hv1, hv2]; exact eqAgg_sound hT hd he ⟨h3, h4⟩ ⟨h5, h6⟩ (.inl rfl), by simpa [O.of] using mkbool b⟩
          · rename_i fs hd
            cases h1
            cases he : eqFs T 0 fs.toList xs ys with
            | none => rw [he] at hok; simp [O.of, O.bad] at hok
            | some b =>
              refine gives_of rfl ⟨_, by rw [hv1, hv2]; exact eqAgg_sound hT hd he ⟨h3, h4⟩ ⟨h5, h6⟩ (.inr rfl), by simpa [O.of] using mkbool (!b)⟩
          · cases h1
    · split at h1
      · rename_i d hd
        cases h1
        exact gives_of rfl (binV_sound (descOf_inv hT hd) hok hx hy)
      · cases h1
  case unOp op t x =>
    cases h1
    exact gives_of rfl (unV_sound hok (opd ht (eks1 hk)))
  case convert s d x =>
    cases h1
    exact gives_of rfl (convV_sound hT hok (opd ht (eks1 hk)))
  case makeFunc fn first caps =>
    cases fn <;> simp only at h1 <;> try (cases h1; done)
    rename_i f
    split at h1 <;> cases h1
    rename_i hf
    have hf0 : first = #[] := Array.eq_empty_of_size_eq_zero hf
    subst hf0
    refine ⟨.func (.func f) #[] (caps.map a.eval), by simp [execOp, Instr.makeFunc], .fn _ _ _ (by simp [evs]) (fun k hk' => ?_)⟩
    have := evs_rep ht (show eks true tm caps.toList = true from hk) k (by simpa [evs] using hk')
    simpa [List.getD_eq_getElem?_getD, Array.getD_eq_getD_getElem?] using this
  case slice t x lo hi mx =>
    cases mx <;> simp only at h1 <;> try (cases h1; done)
    cases h1
    have hks : ∀ y ∈ [x] ++ lo.toList ++ hi.toList, uk true (evo tm y) = true := by
      have : eks true tm (#[x] ++ lo.toArray ++ hi.toArray ++ (none : Option Operand).toArray).toList = true := hk
      simp only [eks, List.all_eq_true] at this
      intro y hy
      exact this y (by simpa using hy)
    have hx := opd ht (hks x (by simp))
    refine gives_of (s := Instr.sliceAt t (a.eval x) (lo.map a.eval) (hi.map a.eval) none) rfl (sliceV_sound hT hm hrd hok hx ?_ ?_)
    · cases lo with
      | none => exact trivial
      | some y => exact opd ht (hks y (by simp))
    · cases hi with
      | none => exact trivial
      | some y => exact opd ht (hks y (by simp))
  case fieldAddr s x f =>
    cases h1
    exact gives_of rfl (fieldV_sound hT hok (opd ht (eks1 hk)))
  case field s x f =>
    cases h1
    exact gives_of rfl (partV_sound hT hok (opd ht (eks1 hk)))
  case indexAddr t x i =>
    cases h1
    obtain ⟨hk1, hk2⟩ := eks2 hk
    exact gives_of rfl (indexAddrV_sound hT hm hrd hok (opd ht hk1) (opd ht hk2))
  case index t x i =>
    cases h1
    obtain ⟨hk1, hk2⟩ := eks2 hk
    exact gives_of rfl (indexV_sound hT hok (opd ht hk1) (opd ht hk2))
  case build t parts =>
    cases h1
    have := buildV_sound (P := P) (w := w) (C := C) (n := h.length) (T := T) (t := t) (l := parts.toList) (u := fun x => uv (evo tm x)) (e := a.eval) hT hok (fun p hp => by
      have hk' : eks true tm (parts.toList.map (·.2)) = true := hk
      simp only [eks, List.all_eq_true] at hk'
      exact opd ht (hk' p.2 (List.mem_map_of_mem hp)))
    refine gives_of (s := Instr.build t (parts.map fun (i, x) => (i, a.eval x))) rfl ?_
    simpa using this
  case lookup t m k c =>
    cases h1
    obtain ⟨hk1, hk2⟩ := eks2 hk
    exact gives_of rfl (lookupV_sound hT hm hrd hok (opd ht hk1) (opd ht hk2))
  case extract t i =>
    have h2 := opd ht (eks1 hk)
    generalize hv : a.eval t = v at h2
    split at h1 <;> cases h1
    rename_i vs e
    rw [e] at h2
    cases h2 with
    | tup _ xs h3 h4 =>
      cases hg : vs[i]? with
      | none => rw [hg] at hok; simp [O.of, O.bad] at hok
      | some y =>
        have hi : i < vs.length := (List.getElem?_eq_some_iff.1 hg).1
        have h5 := h4 i hi
        rw [List.getD_eq_getElem?_getD, hg] at h5
        obtain ⟨u, hu⟩ : ∃ u, xs[i]? = some u := ⟨_, getD_some (by omega)⟩
        rw [Array.getD_eq_getD_getElem?, hu] at h5
        refine gives_of (s := Instr.extract (a.eval t) i) rfl ⟨u, by simp [hv, Instr.extract, hu], by simpa [O.of] using h5⟩
  case call c =>
    obtain ⟨callee, args, argTypes⟩ := c
    cases callee <;> simp only at h1 <;> try (cases h1; done)
    rename_i b
    have hks : eks true tm args.toList = true := by simpa [opK] using hk
    have hev := evs_rep ht hks
    cases b <;> simp only at h1 <;> try (cases h1; done)
    · -- len
      split at h1
      · rename_i x t e1 e2
        have ha : ∃ y, args = #[y] ∧ uv (evo tm y) = x := by
          obtain ⟨l⟩ := args
          match l, e1 with
          | [y], e1 => exact ⟨y, rfl, by simpa [evs] using e1⟩
        have hb : argTypes = #[t] := by
          obtain ⟨l⟩ := argTypes
          simpa using e2
        obtain ⟨y, rfl, rfl⟩ := ha
        subst hb
        have hy := opd ht (show uk true (evo tm y) = true by simpa [eks] using hks)
        refine gives_of (s := Builtin.len_ #[t] type #[a.eval y]) (by simp [execOp, resolve, invoke, builtin]) ?_
        generalize a.eval y = v at hy
        split at h1 <;> cases h1
        · rename_i s hd e
          have h2 := descOf_inv hT hd
          rw [e] at hy
          have := str_inv hy; subst this
          exact ⟨_, by simp [Builtin.len_, run_underlying h2, goInt], mkint _ _⟩
        · rename_i et l hd e
          have h2 := descOf_inv hT hd
          rw [e] at hy
          obtain ⟨p, c, rfl⟩ : ∃ p c, v = .slice p l.length c := by
            cases p_inv hy with
            | sl0 => exact ⟨_, _, rfl⟩
            | slE => exact ⟨_, _, rfl⟩
            | sl => exact ⟨_, _, rfl⟩
          exact ⟨_, by simp [Builtin.len_, run_underlying h2, goInt], mkint _ _⟩
        · rename_i et hd e
          have h2 := descOf_inv hT hd
          rw [e] at hy
          obtain ⟨p, c, rfl⟩ : ∃ p c, v = .slice p 0 c := by
            cases p_inv hy with
            | nils => exact ⟨_, _, rfl⟩
          exact ⟨_, by simp [Builtin.len_, run_underlying h2, goInt], mkint _ 0⟩
        · rename_i et id g off k hd e
          have h2 := descOf_inv hT hd
          rw [e] at hy
          obtain ⟨p, c, rfl⟩ : ∃ p c, v = .slice p k c := by
            cases hy with
            | arr => exact ⟨_, _, rfl⟩
            | arrN => exact ⟨_, _, rfl⟩
            | arrS => exact ⟨_, _, rfl⟩
          exact ⟨_, by simp [Builtin.len_, run_underlying h2, goInt], mkint _ _⟩
      · cases h1
    · -- max
      cases h1
      cases he : minV true (evs tm args.toList) with
      | none => rw [he] at hok; simp [O.of, O.bad] at hok
      | some x =>
        have := minV_sound (P := P) (w := w) (C := C) (n := h.length) (vs := args.toList.map a.eval) he (by simp [evs]) (fun k hk' => hev k (by simpa [evs] using hk'))
        refine gives_of (s := Builtin.max_ argTypes type (args.map a.eval)) (by simp [execOp, resolve, invoke, builtin]) ?_
        simpa [O.of, Builtin.max_] using this
    · cases h1
      cases he : minV false (evs tm args.toList) with
      | none => rw [he] at hok; simp [O.of, O.bad] at hok
      | some x =>
        have := minV_sound (P := P) (w := w) (C := C) (n := h.length) (vs := args.toList.map a.eval) he (by simp [evs]) (fun k hk' => hev k (by simpa [evs] using hk'))
        refine gives_of (s := Builtin.min_ argTypes type (args.map a.eval)) (by simp [execOp, resolve, invoke, builtin]) ?_
        simpa [O.of, Builtin.min_] using this

end
end Go.En
namespace Go.En
open Go.RowKit

section
variable {P : Program} {T : Tab} {F : Base} {w w' : World} {C : Cx} {h rd : Hp} {n : Nat}

def Cx.set (C : Cx) (n : Nat) (c : Cn) : Cx := { C with μ := fun i => if i = n then c else C.μ i }

theorem set_mu (C : Cx) (n : Nat) (c : Cn) : (C.set n c).μ n = c := by simp [Cx.set]
theorem set_mu_other {C : Cx} {id j : Nat} {c : Cn} (e : j ≠ id) : (C.set id c).μ j = C.μ j := by simp [Cx.set, e]

/-- A number of a block that is not made yet. -/
structure Free (C : Cx) (h : Hp) (id : Nat) (ob : Obj) : Prop where
  lt : id < h.length
  none : C.μ id = .none
  ob : h.at id = ob

theorem Free.ext {id : Nat} {ob : Obj} (hf : Free C h id ob) (c : Cn) (n : Nat) : Ext n C (C.set id c) := by
  refine ⟨fun _ _ h => h, fun _ _ h => h, rfl, fun j _ => ?_⟩
  by_cases e : j = id
  · subst e; exact .inr (.inr hf.none)
  · exact .inl (set_mu_other e)

theorem at_append_old {o : Obj} {id : Nat} (hid : id < h.length) : Hp.at (h ++ [o]) id = h.at id := by
  simp [Hp.at, List.getElem?_append_left hid]
theorem at_append_new {o : Obj} : Hp.at (h ++ [o]) h.length = o := by simp [Hp.at]

theorem Fr.grow {w0 : World} {S : Nat → Prop} (hf : Fr w0 S w) (hb : Below w.heap.size w w') : Fr w0 S w' :=
  ⟨hb.os.trans hf.os, hb.tape.trans hf.tape, hb.output.trans hf.output, Nat.le_trans hf.size hb.size, fun k hk hs => (hb.block k (Nat.lt_of_lt_of_le hk hf.size)).trans (hf.block k hk hs)⟩

theorem cell_lt {a : Addr} {v : Value} (hc : w.cell? a = some v) : a.block < w.heap.size := by
  unfold World.cell? at hc
  cases e : w.heap[a.block]? with
  | none => rw [e] at hc; cases hc
  | some o => exact (Array.getElem?_eq_some_iff.1 e).1

/-- A block of the call's own that is made now. -/
theorem Mem.place (hm : Mem F C h w) (hb : Below w.heap.size w w') {id : Nat} {ob : Obj} (hf : Free C h id ob) (c : Cn) (hc : ∀ B, c.blk = some B → w.heap.size ≤ B ∧ B < w'.heap.size)
    (ho : ORep (C.set id c) h.length w' c ob) (hcb : ∀ r b, c = .loop r b → b ≤ id := by intro _ _ e; cases e) : Mem F (C.set id c) h w' := by
  have blk_same : ∀ id B, id < h.length → (C.μ id).blk = some B → w'.heap[B]? = w.heap[B]? := fun id B hid e => hb.block B (hm.lt id B hid e).1
  refine ⟨fun j hj => ?_, fun a v e => ?_, hm.src, fun j B hj e a v hv hab => ?_, fun i j B hi hj e1 e2 => ?_, fun j B hj e => ?_, fun B o e => ?_, fun B o e j hj e' => ?_, fun j r b hj e => ?_, hm.fr.grow hb⟩
  · by_cases hi : j = id
    · subst hi; rw [set_mu, hf.ob]; exact ho
    · rw [set_mu_other hi]
      exact (hm.objs j hj).mono (hf.ext c _) (Nat.le_refl _) (fun B e => blk_same j B hj e)
  · have h1 := hm.prot a v e
    rw [hb.cell (cell_lt h1)]; exact h1
  · by_cases hi : j = id
    · subst hi
      rw [set_mu] at e
      have := cell_lt (hm.prot a v hv)
      have := (hc B e).1
      omega
    · rw [set_mu_other hi] at e ⊢
      exact hm.sep j B hj e a v hv hab
  · by_cases h1 : i = id <;> by_cases h2 : j = id
    · omega
    · subst h1
      rw [set_mu] at e1
      rw [set_mu_other h2] at e2
      have := (hc B e1).1
      have := (hm.lt j B hj e2).1
      omega
    · subst h2
      rw [set_mu] at e2
      rw [set_mu_other h1] at e1
      have := (hc B e2).1
      have := (hm.lt i B hi e1).1
      omega
    · rw [set_mu_other h1] at e1
      rw [set_mu_other h2] at e2
      exact hm.inj i j B hi hj e1 e2
  · by_cases hi : j = id
    · subst hi
      rw [set_mu] at e
      obtain ⟨h1, h2⟩ := hc B e
      exact ⟨h2, .inr (Nat.le_trans hm.fr.size h1)⟩
    · rw [set_mu_other hi] at e
      obtain ⟨h1, h2⟩ := hm.lt j B hj e
      exact ⟨Nat.lt_of_lt_of_le h1 hb.size, h2⟩
  · have h1 := hm.kept B o e
    rw [hb.block B (Array.getElem?_eq_some_iff.1 h1).1]; exact h1
  · by_cases hi : j = id
    · subst hi
      rw [set_mu] at e'
      have := (hc B e').1
      have := (Array.getElem?_eq_some_iff.1 (hm.kept B o e)).1
      omega
    · rw [set_mu_other hi] at e'
      exact hm.ksep B o e j hj e'
  · by_cases hi : j = id
    · subst hi
      rw [set_mu] at e
      exact hcb r b e
    · rw [set_mu_other hi] at e
      exact hm.bnd j r b hj e

/-- No more than the blocks there are. -/
def Cx.cut (C : Cx) (n : Nat) : Cx := { C with μ := fun i => if i < n then C.μ i else .none }
theorem Cx.cut_ext (C : Cx) (n : Nat) : Ext n C (C.cut n) := ⟨fun _ _ h => h, fun _ _ h => h, rfl, fun id hid => .inl (by simp [Cx.cut, hid])⟩
theorem cut_old {n id : Nat} (h : id < n) : (C.cut n).μ id = C.μ id := by simp [Cx.cut, h]
theorem cut_new {n id : Nat} (h : ¬ id < n) : (C.cut n).μ id = .none := by simp [Cx.cut, h]

/-- Room for blocks to come. -/
theorem Mem.room (hm : Mem F C h w) (os : List Obj) : Mem F (C.cut h.length) (h ++ os) w ∧ Ext h.length C (C.cut h.length) := by
  have hx := C.cut_ext h.length
  have hat : ∀ id, id < h.length → Hp.at (h ++ os) id = h.at id := fun id hid => by simp [Hp.at, List.getElem?_append_left hid]
  refine ⟨⟨fun id hid => ?_, hm.prot, hm.src, fun id B hid e a v hv hab => ?_, fun i j B hi hj e1 e2 => ?_, fun id B hid e => ?_, hm.kept, fun B o e id hid e' => ?_, fun id r b hid e => ?_, hm.fr⟩, hx⟩
  · by_cases hi : id < h.length
    · rw [hat id hi, cut_old hi]
      exact (hm.objs id hi).mono hx (by simp) (fun _ _ => rfl)
    · rw [cut_new hi]
      cases Hp.at (h ++ os) id <;> exact trivial
  · by_cases hi : id < h.length
    · rw [cut_old hi] at e ⊢
      rw [hat id hi]; exact hm.sep id B hi e a v hv hab
    · rw [cut_new hi] at e; cases e
  · by_cases h1 : i < h.length <;> by_cases h2 : j < h.length
    · rw [cut_old h1] at e1; rw [cut_old h2] at e2; exact hm.inj i j B h1 h2 e1 e2
    · rw [cut_new h2] at e2; cases e2
    · rw [cut_new h1] at e1; cases e1
    · rw [cut_new h1] at e1; cases e1
  · by_cases hi : id < h.length
    · rw [cut_old hi] at e; exact hm.lt id B hi e
    · rw [cut_new hi] at e; cases e
  · by_cases hi : id < h.length
    · rw [cut_old hi] at e'; exact hm.ksep B o e id hi e'
    · rw [cut_new hi] at e'; cases e'
  · by_cases hi : id < h.length
    · rw [cut_old hi] at e; exact hm.bnd id r b hi e
    · rw [cut_new hi] at e; cases e

theorem below_alloc' (w : World) (o : Go.Obj) : Below w.heap.size w (w.alloc o) := (Below.refl _ w).alloc (Nat.le_refl _) o
theorem heap_alloc (w : World) (o : Go.Obj) : (w.alloc o).heap[w.heap.size]? = some o := heap_alloc_new w o

/-- A world with more in it. -/
theorem Mem.grow (hm : Mem F C h w) (hb : Below w.heap.size w w') : Mem F C h w' := by
  refine ⟨fun id hid => (hm.objs id hid).mono (Ext.refl _ _) (Nat.le_refl _) (fun B e => hb.block B (hm.lt id B hid e).1), fun a v e => ?_, hm.src, hm.sep, hm.inj, fun id B hid e => ?_, fun B o e => ?_, hm.ksep, hm.bnd, hm.fr.grow hb⟩
  · have h1 := hm.prot a v e
    rw [hb.cell (cell_lt h1)]; exact h1
  · obtain ⟨h1, h2⟩ := hm.lt id B hid e
    exact ⟨Nat.lt_of_lt_of_le h1 hb.size, h2⟩
  · have h1 := hm.kept B o e
    rw [hb.block B (Array.getElem?_eq_some_iff.1 h1).1]; exact h1

/-- A nil row of the call's own: nothing turns. -/
theorem Mem.nilRow (hm : Mem F C h w) {id sz : Nat} (hf : Free C h id (.arr 0 sz false [])) : Mem F (C.set id (.nil 0)) h w ∧ ARep (C.set id (.nil 0)) h.length (.arr id 0 0 0) (.slice none 0 0) :=
  ⟨hm.place (Below.refl _ _) hf _ (fun B e => by cases e) ⟨rfl, rfl⟩, .arrN _ _ hf.lt (set_mu _ _ _)⟩

/-- The blocks that are made, numbered from n on, are not made yet. -/
def Frees (C : Cx) (h : Hp) (n : Nat) (os : List Obj) : Prop := ∀ k ob, os[k]? = some ob → Free C h (n + k) ob

/-- What an operation that makes blocks, numbered from id on, comes to. -/
def Makes (P : Program) (a : Act) (o : Oper) (F : Base) (C : Cx) (h : Hp) (w : World) (id n : Nat) (x : AV) : Prop :=
  ∃ v w' C', (execOp a.eval o).run P w = .ok (.value v) w' ∧ Ext h.length C C' ∧ (∀ j, ¬ (id ≤ j ∧ j < id + n) → C'.μ j = C.μ j) ∧ Mem F C' h w' ∧ ARep C' h.length x v

theorem makes_one {a : Act} {o : Oper} {x : AV} {id : Nat} {ob : Obj} (hf : Free C h id ob) {v : Value} {c : Cn} (he : (execOp a.eval o).run P w = .ok (.value v) w') (hm : Mem F (C.set id c) h w') (hr : ARep (C.set id c) h.length x v) :
    Makes P a o F C h w id 1 x :=
  ⟨v, w', _, he, hf.ext c _, fun j hj => set_mu_other (by omega), hm, hr⟩

/-- A variable in memory. -/
theorem box_made (hm : Mem F C h w) {t id : Nat} {cs : List AV} {v : Value} (hf : Free C h id (.box cs)) (hr : LRep C h.length cs v.cells) (h1 : cs.all AV.one = true) :
    ∃ u w' c, (newVar t v).run P w = .ok u w' ∧ Mem F (C.set id c) h w' ∧ ARep (C.set id c) h.length (.ref id 0) (.pointer (some u)) := by
  refine ⟨⟨w.heap.size, 0, none⟩, w.alloc (.cells v.cells t), .box w.heap.size, rfl, ?_, .ref _ _ _ hf.lt (set_mu _ _ _)⟩
  refine hm.place (below_alloc' w _) hf _ (fun B e => by cases e; simp) ?_
  exact ⟨v.cells, t, heap_alloc w _, hr.1, h1, fun k hk => (hr.2 k hk).mono (hf.ext _ _) (Nat.le_refl _)⟩

end
end Go.En
namespace Go.En
open Go.RowKit

section
variable {P : Program} {T : Tab} {F : Base} {w w' : World} {C : Cx} {h rd : Hp} {n : Nat}

theorem toPs_inv : ∀ {cs : List AV} {ps : List PV}, toPs cs = some ps → ps.length = cs.length ∧ ∀ k, k < cs.length → cs.getD k .undef = .p (ps.getD k .nils)
  | [], ps, h => by simp [toPs] at h; subst h; simp
  | .p x :: cs, ps, h => by
    simp only [toPs, Option.map_eq_some_iff] at h
    obtain ⟨qs, h1, rfl⟩ := h
    obtain ⟨h2, h3⟩ := toPs_inv h1
    refine ⟨by simp [h2], fun k hk => ?_⟩
    cases k with
    | zero => simp
    | succ k => simpa using h3 k (by simpa using hk)
  | .agg _ :: _, _, h => by simp [toPs] at h
  | .ref _ _ :: _, _, h => by simp [toPs] at h
  | .arr _ _ _ _ :: _, _, h => by simp [toPs] at h
  | .elt _ _ _ _ :: _, _, h => by simp [toPs] at h
  | .fn _ _ :: _, _, h => by simp [toPs] at h
  | .map _ :: _, _, h => by simp [toPs] at h
  | .tup _ :: _, _, h => by simp [toPs] at h
  | .gd _ _ :: _, _, h => by simp [toPs] at h
  | .undef :: _, _, h => by simp [toPs] at h

/-- Cells of a pure value. -/
def PLRep (M : Addr → Option Value) (ps : List PV) (c : Array Value) : Prop := c.size = ps.length ∧ ∀ k, k < ps.length → PRep M (ps.getD k .nils) (c.getD k Go.undef) ∧ (c.getD k Go.undef).oneCell' = true

theorem toP_rep {v : AV} {x : PV} {u : Value} (hx : v.toP = some x) (hr : ARep C n v u) (h1 : v.cells.all AV.one = true) : x.cells.length = v.cells.length ∧ PLRep C.M x.cells u.cells := by
  obtain ⟨⟨h2, h3⟩, h4⟩ := cells_rep hr h1
  have hone : ∀ k, k < v.cells.length → (u.cells.getD k Go.undef).oneCell' = true := by
    intro k hk
    have hk' : k < u.cells.size := by omega
    refine h4 _ ?_
    simp [Array.getD_eq_getD_getElem?, hk']
  cases v with
  | p y =>
    simp [AV.toP] at hx; subst hx
    have hy : y.cells = [y] := by cases y <;> first | rfl | (simp [AV.cells, AV.one] at h1)
    have h0 := h3 0 (by simp [AV.cells])
    have e : (AV.p y).cells = [.p y] := rfl
    rw [e] at h2 h0 hone
    refine ⟨by rw [hy]; rfl, by rw [hy]; simpa using h2, fun k hk => ?_⟩
    have : k = 0 := by rw [hy] at hk; simpa using hk
    subst this
    rw [hy]
    exact ⟨by simpa using p_inv (by simpa using h0), hone 0 (by simp)⟩
  | agg cs =>
    simp only [AV.toP, Option.map_eq_some_iff] at hx
    obtain ⟨ps, h5, rfl⟩ := hx
    obtain ⟨h6, h7⟩ := toPs_inv h5
    refine ⟨h6, by rw [h2]; exact h6.symm, fun k hk => ?_⟩
    have hk' : k < cs.length := by rw [← h6]; exact hk
    have h8 := h3 k hk'
    have e : (AV.agg cs).cells = cs := rfl
    rw [e, h7 k hk'] at h8
    exact ⟨p_inv h8, hone k hk'⟩
  | _ => simp [AV.toP] at hx

/-- Elements of a row, from cell o on. -/
def RowOk (M : Addr → Option Value) (sz : Nat) (es : List PV) (c : Array Value) (o : Nat) : Prop :=
  (∀ x ∈ es, x.cells.length = sz) ∧ ∀ k, k < (flat es).length → PRep M ((flat es).getD k .nils) (c.getD (o + k) Go.undef) ∧ (c.getD (o + k) Go.undef).oneCell' = true

theorem flat_all {es : List PV} {sz : Nat} {Q : PV → Nat → Prop} (hu : ∀ y ∈ es, y.cells.length = sz) (hq : ∀ i, i < es.length → ∀ j, j < sz → Q ((es.getD i .nils).cells.getD j .nils) (i * sz + j)) :
    ∀ k, k < (flat es).length → Q ((flat es).getD k .nils) k := by
  intro k hk
  rw [flat_length hu] at hk
  have hsz : 0 < sz := by
    rcases Nat.eq_zero_or_pos sz with h | h
    · subst h; simp at hk
    · exact h
  have hlt : k / sz < es.length := Nat.div_lt_of_lt_mul (by rw [Nat.mul_comm]; exact hk)
  have hmod := Nat.mod_lt k hsz
  have e : k = (k / sz) * sz + k % sz := by rw [Nat.mul_comm]; exact (Nat.div_add_mod k sz).symm
  have h1 := hq (k / sz) hlt (k % sz) hmod
  rw [← flat_get hu hlt hmod, ← e] at h1
  exact h1

theorem idx_lt {i j sz m : Nat} (hi : i < m) (hj : j < sz) : i * sz + j < m * sz := by
  have : (i + 1) * sz ≤ m * sz := Nat.mul_le_mul_right _ hi
  rw [Nat.succ_mul] at this; omega

theorem RowOk.get {M : Addr → Option Value} {sz : Nat} {es : List PV} {c : Array Value} {o : Nat} (hr : RowOk M sz es c o) {i j : Nat} (hi : i < es.length) (hj : j < sz) :
    PRep M ((es.getD i .nils).cells.getD j .nils) (c.getD (o + (i * sz + j)) Go.undef) ∧ (c.getD (o + (i * sz + j)) Go.undef).oneCell' = true := by
  have := hr.2 (i * sz + j) (by rw [flat_length hr.1]; exact idx_lt hi hj)
  rwa [flat_get hr.1 hi hj] at this

theorem RowOk.of {M : Addr → Option Value} {sz : Nat} {es : List PV} {c : Array Value} {o : Nat} (hu : ∀ y ∈ es, y.cells.length = sz)
    (hq : ∀ i, i < es.length → ∀ j, j < sz → PRep M ((es.getD i .nils).cells.getD j .nils) (c.getD (o + (i * sz + j)) Go.undef) ∧ (c.getD (o + (i * sz + j)) Go.undef).oneCell' = true) : RowOk M sz es c o :=
  ⟨hu, flat_all (Q := fun x k => PRep M x (c.getD (o + k) Go.undef) ∧ (c.getD (o + k) Go.undef).oneCell' = true) hu hq⟩

theorem arr_splice_getD {a : Array Value} {b : List Value} {off k : Nat} (hle : off + b.length ≤ a.size) :
    (a.toList.take off ++ b ++ a.toList.drop (off + b.length)).toArray.getD k Go.undef = if k < off then a.getD k Go.undef else if k < off + b.length then b.getD (k - off) Go.undef else a.getD k Go.undef := by
  simp only [Array.getD_eq_getD_getElem?, List.getD_eq_getElem?_getD]
  rw [List.getElem?_toArray, splice_get a.toList b off k (by simpa using hle)]
  split
  · simp
  · split <;> simp

/-- One element set anew. -/
theorem RowOk.set {M : Addr → Option Value} {sz : Nat} {es : List PV} {c : Array Value} {o i : Nat} {x : PV} {b : Array Value} (hr : RowOk M sz es c o) (hi : i < es.length) (hx : x.cells.length = sz) (hb : PLRep M x.cells b)
    (hfit : o + es.length * sz ≤ c.size) : RowOk M sz (es.set i x) (c.toList.take (o + i * sz) ++ b.toList ++ c.toList.drop (o + i * sz + b.toList.length)).toArray o := by
  have hbs : b.toList.length = sz := by simp [hb.1, hx]
  have hin : (i + 1) * sz ≤ es.length * sz := Nat.mul_le_mul_right _ hi
  rw [Nat.succ_mul] at hin
  refine RowOk.of (fun y hy => ?_) (fun k hk j hj => ?_)
  · rcases List.mem_or_eq_of_mem_set hy with h | h
    · exact hr.1 y h
    · rw [h]; exact hx
  · rw [arr_splice_getD (by rw [hbs]; omega), hbs]
    rw [List.length_set] at hk
    by_cases hki : k = i
    · subst hki
      rw [if_neg (by omega), if_pos (by omega)]
      have h1 := hb.2 j (by omega)
      have e1 : (es.set k x).getD k .nils = x := by simp [List.getD_eq_getElem?_getD, hk]
      rw [e1]
      rw [show o + (k * sz + j) - (o + k * sz) = j from by omega]
      simpa [List.getD_eq_getElem?_getD, Array.getD_eq_getD_getElem?] using h1
    · have e1 : (es.set i x).getD k .nils = es.getD k .nils := by simp [List.getD_eq_getElem?_getD, Ne.symm hki]
      rw [e1]
      have h1 := hr.get hk hj
      rcases Nat.lt_or_gt_of_ne hki with h2 | h2
      · have : (k + 1) * sz ≤ i * sz := Nat.mul_le_mul_right _ h2
        rw [Nat.succ_mul] at this
        rw [if_pos (by omega)]; exact h1
      · have : (i + 1) * sz ≤ k * sz := Nat.mul_le_mul_right _ h2
        rw [Nat.succ_mul] at this
        rw [if_neg (by omega), if_neg (by omega)]; exact h1

/-- The parts of a slice that is written out. -/
theorem fillE_rep {sz : Nat} {u : Operand → AV} {e : Operand → Value} : ∀ (l : List (Nat × Operand)) (es es' : List PV) (c : Array Value), c.size = es.length * sz → RowOk C.M sz es c 0 →
    (∀ p ∈ l, ARep C n (u p.2) (e p.2)) → fillE sz es (l.map fun (i, x) => (i, u x)) = some es' →
    ∃ c', Instr.fill (fun i => some (i * sz, sz)) c (l.map fun (i, x) => (i, e x)) = some c' ∧ es'.length = es.length ∧ c'.size = es.length * sz ∧ RowOk C.M sz es' c' 0
  | [], es, es', c, h1, h2, _, h3 => by simp [fillE] at h3; subst h3; exact ⟨c, rfl, rfl, h1, h2⟩
  | (j, x) :: l, es, es', c, h1, h2, hl, h3 => by
    simp only [List.map_cons, fillE, Option.bind_eq_some_iff] at h3
    obtain ⟨y, h4, h5⟩ := h3
    split at h5
    · rename_i hc
      obtain ⟨h6, h7, h8⟩ := hc
      have hlx : ARep C n (u x) (e x) := hl (j, x) (by simp)
      obtain ⟨h9, h10⟩ := toP_rep h4 hlx h8
      have hy : y.cells.length = sz := by rw [h9]; exact h7
      have hsz : (e x).cells.size = sz := by rw [h10.1, hy]
      have hin : (j + 1) * sz ≤ es.length * sz := Nat.mul_le_mul_right _ h6
      rw [Nat.succ_mul] at hin
      have h11 := setCells_foldl (e x).cells.toList 0 (j * sz) c (by rw [h1]; simp; omega)
      simp only [Nat.add_zero] at h11
      have h12 := h2.set h6 hy h10 (by omega)
      simp only [Nat.zero_add] at h12
      simp only [List.map_cons, Instr.fill]
      rw [if_neg (by rw [hsz, h1]; simp; omega)]
      rw [← h11] at h12
      obtain ⟨c', g1, g2, g3, g4⟩ := fillE_rep l (es.set j y) es' _ (by
        rw [List.length_set]
        have := congrArg List.length h11
        simp at this ⊢
        omega) h12 (fun p hp => hl p (by simp [hp])) h5
      refine ⟨c', ?_, by rw [g2, List.length_set], by rw [g3, List.length_set], g4⟩
      rw [← Array.foldl_toList, Array.toList_zipIdx]
      simpa using g1
    · cases h5

end
end Go.En
namespace Go.En
open Go.RowKit

section
variable {P : Program} {T : Tab} {F : Base} {w w' : World} {C : Cx} {h rd : Hp} {n : Nat}

theorem wrap_small {n : Int} (h0 : 0 ≤ n) (h1 : n ≤ 1099511627776) : IntKind.i64.wrap n = n := by
  have e : n % 2 ^ 64 = n := Int.emod_eq_of_lt h0 (by omega)
  simp only [IntKind.wrap, IntKind.bits, IntKind.signed, e]
  rw [if_neg (by simp; omega)]

theorem zeroElem_rep (hT : T.Ok P) {t : Nat} {i : TI} (hi : T.info t = some i) :
    ∃ z, (zeroValue t).run P w = .ok z w ∧ z.cells.size = i.size ∧ (∀ M k, k < i.size → PRep M ((zeroElem i).cells.getD k .nils) (z.cells.getD k Go.undef) ∧ (z.cells.getD k Go.undef).oneCell' = true) := by
  obtain ⟨_, inf, z, h1, h2, h3, h4, h5, h6, h7, h8, h9⟩ := hT.info t i hi
  refine ⟨z, by simp [zeroValue, typeInfo, h1, h4], h5, fun M k hk => ?_⟩
  have h10 := h7 k (by omega)
  have hc : (zeroElem i).cells.getD k .nils = i.zero.getD k .nils := by
    unfold zeroElem
    by_cases ha : isAggD i.desc = true
    · rw [ha]; rfl
    · have ha' : isAggD i.desc = false := by simpa using ha
      obtain ⟨h11, _⟩ := h9 ha'
      rw [ha']
      match hzz : i.zero with
      | [x] =>
        have h12 := h7 0 (by rw [hzz]; simp)
        rw [hzz] at h12
        have : k = 0 := by omega
        subst this
        have hx : x.cells = [x] := by
          have := h12.2
          simp at this
          cases x <;> first | rfl | (simp [AV.one] at this)
        simp [hx]
      | [] => rw [hzz] at h6; simp at h6; omega
      | _ :: _ :: _ => rw [hzz] at h6; simp at h6; omega
  rw [hc]
  have h13 : PRep M (i.zero.getD k .nils) (z.cells.getD k Go.undef) := h10.1.mono (fun a v e => by cases e)
  refine ⟨h13, ?_⟩
  exact (one_rep (C := ⟨M, fun _ => .none, fun _ => none, ⟨fun _ _ => none, fun _ => none⟩⟩) (n := 0) (.p _ _ h13) h10.2).1

theorem zero_row {zc : Array Value} {sz len : Nat} {x : PV} {M : Addr → Option Value} (hs : zc.size = sz) (hx : x.cells.length = sz)
    (hr : ∀ k, k < sz → PRep M (x.cells.getD k .nils) (zc.getD k Go.undef) ∧ (zc.getD k Go.undef).oneCell' = true) {m : Nat} (hm : len * sz ≤ m) :
    RowOk M sz (List.replicate len x) ((Array.range m).map (zc[· % zc.size]!)) 0 := by
  refine RowOk.of (fun y hy => by rw [List.eq_of_mem_replicate hy]; exact hx) (fun i hi j hj => ?_)
  rw [List.length_replicate] at hi
  have hlt := idx_lt hi hj
  have e1 : (List.replicate len x).getD i .nils = x := by simp [List.getD_eq_getElem?_getD, hi]
  rw [e1]
  have e2 : ((Array.range m).map (zc[· % zc.size]!)).getD (0 + (i * sz + j)) Go.undef = zc.getD j Go.undef := by
    have : 0 + (i * sz + j) < m := by omega
    rw [Array.getD_eq_getD_getElem?, Array.getElem?_map, Array.getElem?_range, if_pos this]
    simp only [Option.map_some, Option.getD_some, hs]
    have hmod : (0 + (i * sz + j)) % sz = j := by
      rw [Nat.zero_add, Nat.mul_comm, Nat.mul_add_mod, Nat.mod_eq_of_lt hj]
    rw [hmod]
    have hj' : j < zc.size := by omega
    simp [Array.getD_eq_getD_getElem?, hj']
  rw [e2]
  exact hr j hj

theorem arr_made {sz id : Nat} (hm : Mem F C h w) (hb : Below w.heap.size w w') {es : List PV} {c : Array Value} {et : TypeId} {B cap : Nat} (hf : Free C h id (.arr 0 sz false es)) (hB : w.heap.size ≤ B) (hB' : B < w'.heap.size)
    (hh : w'.heap[B]? = some (.cells c et (0, 0))) (hsz : 0 < sz) (hcap : es.length ≤ cap) (hfit : cap * sz ≤ c.size) (hr : RowOk C.M sz es c 0) :
    Mem F (C.set id (.arr 0 B 0 cap sz)) h w' ∧ ARep (C.set id (.arr 0 B 0 cap sz)) h.length (.arr id 0 0 es.length) (.slice (some ⟨B, 0, none⟩) es.length cap) := by
  refine ⟨hm.place hb hf _ (fun B' e => by cases e; exact ⟨hB, hB'⟩) ⟨rfl, rfl, hsz, hcap, hr.1, c, et, hh, by omega, hr.2⟩, ?_⟩
  have := ARep.arr (C := C.set id (.arr 0 B 0 cap sz)) (n := h.length) id 0 0 es.length B 0 cap sz 0 hf.lt (set_mu _ _ _) (by omega) (.inl (by omega))
  simpa using this

end
end Go.En
namespace Go.En
open Go.RowKit

section
variable {P : Program} {T : Tab} {F : Base} {w w' : World} {C : Cx} {h rd : Hp} {n : Nat}

/-- What a slice that shows xs is in memory. -/
theorem pic_rep (hm : Mem F C h w) (hrd : ∀ id, rd.at id ≠ .dead → h.at id = rd.at id) {x : AV} {v : Value} {xs : List PV} (hp : pic rd x = some xs) (hr : ARep C h.length x v) :
    ∃ p cap, v = .slice p xs.length cap ∧ xs.length ≤ cap ∧ (xs = [] ∨ ∃ B o sz, p = some ⟨B, o, none⟩ ∧ (∀ y ∈ xs, y.cells.length = sz) ∧
      ∀ k, k < (flat xs).length → ∃ u, w.cell? ⟨B, o + k, none⟩ = some u ∧ PRep C.M ((flat xs).getD k .nils) u ∧ u.oneCell' = true) := by
  unfold pic at hp
  split at hp
  · cases hp
    cases p_inv hr with
    | sl0 => exact ⟨_, _, rfl, by simp, .inl rfl⟩
    | slE => exact ⟨_, _, rfl, by simp, .inl rfl⟩
    | sl _ B o cap sz f h1 h2 h3 h4 => exact ⟨_, _, rfl, h1, .inr ⟨B, o, sz, rfl, h2, fun k hk => ⟨f k, hm.prot _ _ (h3 k hk).1, h4 k hk, (h3 k hk).2⟩⟩⟩
  · cases hp
    cases p_inv hr with
    | nils => exact ⟨_, _, rfl, by simp, .inl rfl⟩
  · rename_i id g off len
    split at hp
    · rename_i g' sz sh es hid
      split at hp
      · rename_i hc
        obtain ⟨rfl, h5⟩ := hc
        cases hp
        have hlive : h.at id = .arr g sz sh es := by rw [hrd id (by rw [hid]; simp), hid]
        have hlen : ((es.drop off).take len).length = len := by simp; omega
        rw [hlen]
        cases hr with
        | arr _ _ _ _ B o cap sz' a h6 h7 h8 h9 =>
          have ho := hm.objs id h6
          rw [hlive, h7] at ho
          obtain ⟨_, rfl, hsz0, h10, h11, c, et, h12, h13, h14⟩ := ho
          refine ⟨_, _, rfl, by omega, .inr ⟨B, a, sz', rfl, fun y hy => h11 y (List.mem_of_mem_drop (List.mem_of_mem_take hy)), ?_⟩⟩
          have hu : ∀ y ∈ (es.drop off).take len, y.cells.length = sz' := fun y hy => h11 y (List.mem_of_mem_drop (List.mem_of_mem_take hy))
          refine flat_all (Q := fun x k => ∃ u, w.cell? ⟨B, a + k, none⟩ = some u ∧ PRep C.M x u ∧ u.oneCell' = true) hu (fun i hi j hj => ?_)
          rw [hlen] at hi
          have hio : off + i < es.length := by omega
          have ha : a = o + off * sz' := by
            rcases h9 with h9 | h9
            · exact h9
            · omega
          subst ha
          have hlt := idx_lt hio hj
          have hcap : es.length * sz' ≤ cap * sz' := Nat.mul_le_mul_right _ h10
          have e1 : ((es.drop off).take len).getD i .nils = es.getD (off + i) .nils := by
            simp [List.getD_eq_getElem?_getD, hi, List.getElem?_drop]
          have h15 := h14 ((off + i) * sz' + j) (by rw [flat_length h11]; exact hlt)
          rw [flat_get h11 hio hj] at h15
          rw [e1, cell_of_block h12]
          have e2 : o + off * sz' + (i * sz' + j) = o + ((off + i) * sz' + j) := by rw [Nat.add_mul]; omega
          rw [e2]
          exact ⟨_, getD_some (by omega), h15⟩
        | arrN _ _ h6 h7 =>
          refine ⟨_, _, rfl, by simp, .inl (by simp)⟩
        | arrS _ _ _ _ g' a cap h6 h7 h8 =>
          have ho := hm.objs id h6
          rw [hlive] at ho
          cases hc : C.μ id <;> rw [hc] at ho h7 <;> simp [Cn.gen] at h7
          · obtain ⟨h4, _⟩ := ho; omega
          · obtain ⟨h4, _⟩ := ho; omega
      · cases hp
    · cases hp
  · cases hp

/-- The cells of a slice that shows xs. -/
theorem pic_cells {v : Value} {xs : List PV} {sz : Nat} (hu : ∀ y ∈ xs, y.cells.length = sz)
    (hv : ∃ p cap, v = .slice p xs.length cap ∧ xs.length ≤ cap ∧ (xs = [] ∨ ∃ B o sz, p = some ⟨B, o, none⟩ ∧ (∀ y ∈ xs, y.cells.length = sz) ∧
      ∀ k, k < (flat xs).length → ∃ u, w.cell? ⟨B, o + k, none⟩ = some u ∧ PRep C.M ((flat xs).getD k .nils) u ∧ u.oneCell' = true)) :
    ∃ news : List Value, news.length = xs.length * sz ∧ (∀ w' : World, w'.heap = w.heap → (Builtin.firstCells sz xs.length v).run P w' = .ok news.toArray w') ∧ (Builtin.lenOf v) = pure xs.length ∧
      (∀ k, k < (flat xs).length → PRep C.M ((flat xs).getD k .nils) (news.getD k Go.undef)) ∧ (∀ u ∈ news, u.oneCell' = true) := by
  obtain ⟨p, cap, rfl, h0, h2⟩ := hv
  rcases h2 with rfl | ⟨B, o, sz', rfl, h3, h4⟩
  · exact ⟨[], by simp, fun w' _ => by cases p <;> simp [Builtin.firstCells, loadCells, loadCellsFrom], rfl, fun k hk => by simp [flat] at hk, fun u hu => by cases hu⟩
  · let f := fun k => (w.cell? ⟨B, o + k, none⟩).getD Go.undef
    have hfl := flat_length hu
    refine ⟨(List.range (xs.length * sz)).map f, by simp, fun w' hw => ?_, rfl, fun k hk => ?_, fun u hu => ?_⟩
    · refine run_firstCells_some w' sz xs.length ⟨B, o, none⟩ xs.length cap _ (by simp) (fun j u hj => ?_)
      have hjl : j < xs.length * sz := by
        have := (List.getElem?_eq_some_iff.1 hj).1; simpa using this
      obtain ⟨u', h5, _⟩ := h4 j (by rw [hfl]; exact hjl)
      simp [hjl, f, h5] at hj
      rw [add_at, ← hj]
      have : w'.cell? ⟨B, o + j, none⟩ = w.cell? ⟨B, o + j, none⟩ := by simp [World.cell?, hw]
      rw [this, h5]
    · obtain ⟨u', h5, h6, _⟩ := h4 k hk
      have : k < xs.length * sz := by rw [← hfl]; exact hk
      simpa [List.getD_eq_getElem?_getD, this, f, h5] using h6
    · simp only [List.mem_map, List.mem_range] at hu
      obtain ⟨k, hk, rfl⟩ := hu
      obtain ⟨u', h5, _, h6⟩ := h4 k (by rw [hfl]; exact hk)
      simpa [f, h5] using h6

theorem fits {need old bytes : Nat} (h : old < need) (h2 : need * bytes ≤ 1099511627776) : Builtin.nextslicecap need old * bytes ≤ 281474976710656 :=
  growslice_fits h (by omega)

theorem run_append_new (hT : T.Ok P) {t t' ty et et' : Nat} {e : TI} {base : Option Addr} {sLen sCap m : Nat} {x : Value} {olds news : List Value} (ht : P.underlying t = some (.slice et)) (ht' : P.underlying t' = some (.slice et'))
    (he : T.info et = some e) (ho : ∀ w' : World, w'.heap = w.heap → (Builtin.firstCells e.size sLen (.slice base sLen sCap)).run P w' = .ok olds.toArray w')
    (hn : ∀ w' : World, w'.heap = w.heap → (Builtin.firstCells e.size m x).run P w' = .ok news.toArray w') (hl : Builtin.lenOf x = pure m)
    (hg : sCap < sLen + m) (h1 : sLen + m ≤ 1099511627776) (h2 : (sLen + m) * e.bytes ≤ 1099511627776) :
    ∃ z cap, sLen + m ≤ cap ∧ (zeroValue et).run P w = .ok z w ∧ z.cells.size = e.size ∧ (Builtin.append_ #[t, t'] ty #[.slice base sLen sCap, x]).run P w =
      .ok (.slice (some ⟨w.heap.size, 0, none⟩) (sLen + m) cap) (w.drew.alloc (.cells (olds.toArray ++ news.toArray ++ Builtin.zeroCells z.cells (cap - (sLen + m))) et)) := by
  obtain ⟨_, inf, z, g1, g2, g3, g4, g5, _⟩ := hT.info et e he
  refine ⟨z, grownCap w (sLen + m) sCap et, grownCap_ge w _ _ _, by simp [zeroValue, typeInfo, g1, g4], g5, ?_⟩
  have hn' : ¬ (sLen + m ≤ sCap) := by omega
  have h63' : ¬ (9223372036854775807 < ((sLen : Int) + (m : Int))) := by omega
  have h48 := fits hg h2
  rw [← g3] at h48
  have h48' : ¬ (281474976710656 < Builtin.nextslicecap (sLen + m) sCap * inf.bytes) := by omega
  have hf := hn w.drew rfl
  have hfo := ho w.drew rfl
  rw [← g2] at hf hfo
  simp [Builtin.append_, run_underlying ht, run_underlying ht', sizeOf, typeInfo, zeroValue, g1, g4, hl, hn', h63', h48', Question.forced, hf, hfo, newRow, grownCap]
  congr 2
  apply Array.ext'
  simp [List.append_assoc]

theorem below_drew_alloc (w : World) (o : Go.Obj) : Below w.heap.size w (w.drew.alloc o) := ((Below.refl _ w).drew).alloc (Nat.le_refl _) o

/-- append, onto nothing. -/
theorem appendNil_sound (hT : T.Ok P) (hm : Mem F C h w) (hrd : ∀ id, rd.at id ≠ .dead → h.at id = rd.at id) {t t' ty id : Nat} {e e' : TI} {x : AV} {v : Value} {xs : List PV}
    (he : elemOf T t = some e) (he' : elemOf T t' = some e') (hp : pic rd x = some xs) (hr : ARep C h.length x v) (hf : Free C h id (.arr 0 e.size false xs))
    (hok : 0 < e.size ∧ xs.length * e.bytes ≤ 1099511627776 ∧ xs.length ≤ 1099511627776 ∧ ∀ y ∈ xs, y.cells.length = e.size) :
    ∃ u w' c, (Builtin.append_ #[t, t'] ty #[.slice none 0 0, v]).run P w = .ok u w' ∧ Mem F (C.set id c) h w' ∧
      ARep (C.set id c) h.length (.arr id 0 0 xs.length) u := by
  obtain ⟨h1, h2, h3, h4⟩ := hok
  obtain ⟨et, g1, g2⟩ := elemOf_inv hT he
  obtain ⟨et', g1', _⟩ := elemOf_inv hT he'
  obtain ⟨news, k1, k2, k3, k4, k5⟩ := pic_cells (P := P) h4 (pic_rep hm hrd hp hr)
  have hsz := run_sizeOf (w := w) hT g2
  by_cases hx : xs.length = 0
  · have : xs = [] := List.eq_nil_of_length_eq_zero hx
    subst this
    refine ⟨.slice none 0 0, w, .nil 0, ?_, hm.place (Below.refl _ _) hf _ (fun B e => by cases e) ⟨rfl, rfl⟩, .arrN _ _ hf.lt (set_mu _ _ _)⟩
    have k2' := k2 w rfl
    simp only [List.length_nil] at k2' k3
    simp [Builtin.append_, run_underlying g1, run_underlying g1', hsz, k3, k2']
  · obtain ⟨z, cap, r1, r2, r3, r4⟩ := run_append_new (P := P) (w := w) (ty := ty) (olds := []) (base := none) (sLen := 0) (sCap := 0) hT g1 g1' g2 (fun w' _ => rfl) k2 k3 (by omega) (by omega) (by rw [Nat.zero_add]; exact h2)
    rw [Nat.zero_add] at r1 r4
    have hfl := flat_length h4
    have hrow : RowOk C.M e.size xs ((#[] : Array Value) ++ news.toArray ++ Builtin.zeroCells z.cells (cap - xs.length)) 0 := by
      refine ⟨h4, fun k hk => ?_⟩
      have hk' : k < news.length := by rw [k1, ← hfl]; exact hk
      have e1 : ((#[] : Array Value) ++ news.toArray ++ Builtin.zeroCells z.cells (cap - xs.length)).getD (0 + k) Go.undef = news.getD k Go.undef := by
        rw [Nat.zero_add, Array.getD_eq_getD_getElem?, List.getD_eq_getElem?_getD, Array.empty_append, Array.getElem?_append_left (by simpa using hk')]
        simp
      rw [e1]
      exact ⟨k4 k hk, k5 _ (by rw [List.getD_eq_getElem?_getD, List.getElem?_eq_getElem hk']; exact List.getElem_mem _)⟩
    obtain ⟨g9, g10⟩ := arr_made (B := w.heap.size) (cap := cap) (et := et) hm (below_drew_alloc w _) hf (Nat.le_refl _) (by simp) (heap_alloc_new w.drew _) h1 r1
      (by simp only [Array.size_append, List.size_toArray, size_zeroCells, k1, r3, List.length_nil]; rw [Nat.zero_add, ← Nat.add_mul]; exact Nat.mul_le_mul_right _ (by omega)) hrow
    exact ⟨_, _, _, r4, g9, g10⟩

end
end Go.En
namespace Go.En
open Go.RowKit

section
variable {P : Program} {T : Tab} {F : Base} {w w' : World} {C : Cx} {h rd : Hp} {n : Nat}

theorem ownNil_rep {v : AV} (hv : ARep C n v (.slice none 0 0)) (h1 : v.one = true) : ∀ {cs cs' : List AV} {a : List Value}, ownNil v cs = some cs' → a.length = cs.length → (∀ k, k < cs.length → ARep C n (cs.getD k .undef) (a.getD k Go.undef)) →
    cs'.length = cs.length ∧ (∀ k, k < cs.length → ARep C n (cs'.getD k .undef) (a.getD k Go.undef)) ∧ (cs.all AV.one = true → cs'.all AV.one = true)
  | [], cs', a, h, _, _ => by simp [ownNil] at h
  | x :: r, cs', [], h, hl, _ => by simp at hl
  | x :: r, cs', b :: a, h, hl, hr => by
    have hx := hr 0 (by simp)
    have htail : ∀ k, k < r.length → ARep C n (r.getD k .undef) (a.getD k Go.undef) := fun k hk => by simpa using hr (k + 1) (by simpa using hk)
    by_cases hnil : x = .p .nils
    · subst hnil
      simp only [ownNil] at h
      cases h
      have hb : b = .slice none 0 0 := by
        have := p_inv (by simpa using hx)
        cases this; rfl
      subst hb
      refine ⟨by simp, fun k hk => ?_, fun ha => ?_⟩
      · cases k with
        | zero => simpa using hv
        | succ k => simpa using htail k (by simpa using hk)
      · simp only [List.all_cons, Bool.and_eq_true] at ha ⊢
        exact ⟨h1, ha.2⟩
    · have h' : (ownNil v r).map (x :: ·) = some cs' := by
        cases x with
        | p y => cases y <;> first | exact absurd rfl hnil | exact h
        | _ => exact h
      simp only [Option.map_eq_some_iff] at h'
      obtain ⟨r', h2, rfl⟩ := h'
      obtain ⟨h3, h4, h5⟩ := ownNil_rep hv h1 h2 (by simpa using hl) htail
      refine ⟨by simp [h3], fun k hk => ?_, fun ha => ?_⟩
      · cases k with
        | zero => simpa using hx
        | succ k => simpa using h4 k (by simpa using hk)
      · simp only [List.all_cons, Bool.and_eq_true] at ha ⊢
        exact ⟨ha.1, h5 ha.2⟩

theorem boxA_made (hm : Mem F C h w) {own t id : Nat} {cs : List AV} {ok : Bool} {v : Value} {a : Act} {o : Oper} (hf : Frees C h id ((boxA own cs ok).obj id :: (boxA own cs ok).aux)) (hr : LRep C h.length cs v.cells) (h1 : cs.all AV.one = true)
    (he : ∀ u w', (newVar t v).run P w = .ok u w' → (execOp a.eval o).run P w = .ok (.value (.pointer (some u))) w') : Makes P a o F C h w id ((boxA own cs ok).aux.length + 1) ((boxA own cs ok).mk id) := by
  unfold boxA at hf ⊢
  split at hf
  · rename_i hown
    rw [if_pos hown]
    have hf0 : Free C h id (.box cs) := hf 0 _ rfl
    obtain ⟨u, w', c, h4, h5, h6⟩ := box_made (P := P) (t := t) hm hf0 hr h1
    exact makes_one hf0 (he u w' h4) h5 h6
  · rename_i hown
    rw [if_neg hown]
    have hf1 : Free C h (id + 1) (.arr 0 own false []) := hf 1 _ rfl
    obtain ⟨g1, g2⟩ := hm.nilRow hf1
    have hx1 := hf1.ext (.nil 0) h.length
    have hf0 : Free (C.set (id + 1) (.nil 0)) h id (.box ((ownNil (.arr (id + 1) 0 0 0) cs).getD cs)) := by
      have := hf 0 _ rfl
      exact ⟨this.lt, by rw [set_mu_other (by omega)]; exact this.none, this.ob⟩
    have hr1 := (show LRep (C.set (id + 1) (.nil 0)) h.length cs v.cells from ⟨hr.1, fun k hk => (hr.2 k hk).mono hx1 (Nat.le_refl _)⟩)
    have key : LRep (C.set (id + 1) (.nil 0)) h.length ((ownNil (.arr (id + 1) 0 0 0) cs).getD cs) v.cells ∧ ((ownNil (.arr (id + 1) 0 0 0) cs).getD cs).all AV.one = true := by
      cases e : ownNil (.arr (id + 1) 0 0 0) cs with
      | none => exact ⟨hr1, h1⟩
      | some cs' =>
        obtain ⟨k1, k2, k3⟩ := ownNil_rep (a := v.cells.toList) g2 rfl e (by simpa using hr1.1) (fun k hk => by
          have := hr1.2 k hk
          simpa [List.getD_eq_getElem?_getD, Array.getD_eq_getD_getElem?] using this)
        refine ⟨⟨by show v.cells.size = cs'.length; rw [k1]; exact hr1.1, fun k hk => ?_⟩, k3 h1⟩
        have := k2 k (by rw [← k1]; exact hk)
        simpa [List.getD_eq_getElem?_getD, Array.getD_eq_getD_getElem?] using this
    obtain ⟨u, w', c, h4, h5, h6⟩ := box_made (P := P) (t := t) g1 hf0 key.1 key.2
    refine ⟨_, w', _, he u w' h4, hx1.trans (hf0.ext c _), fun j hj => ?_, h5, h6⟩
    simp only [List.length_singleton] at hj
    rw [set_mu_other (by omega), set_mu_other (by omega)]

theorem opA_sound (hT : T.Ok P) (hm : Mem F C h w) (hrd : ∀ id, rd.at id ≠ .dead → h.at id = rd.at id) {tm : Tm} {a : Act} (ht : ∀ i, ARep C h.length (look tm i) (a.tmps.getD i Go.undef))
    {own : Nat} {o : Oper} {r : A} (h1 : opA T own rd tm o.op = some r) (hok : r.ok = true) (hk : opK true tm o.op = true) {id : Nat} (hf : Frees C h id (r.obj id :: r.aux)) : Makes P a o F C h w id (r.aux.length + 1) (r.mk id) := by
  obtain ⟨dst, op, type, pos, after, guard⟩ := o
  cases op <;> simp only [opA] at h1 <;> try (cases h1; done)
  case alloc t =>
    cases hi : T.info t with
    | none => rw [hi] at h1; cases h1
    | some i =>
      rw [hi] at h1; cases h1
      obtain ⟨z, h2, h3, _⟩ := zero_rep (w := w) (C := C) (n := h.length) hT hi
      have hone : (i.zero.map AV.p).all AV.one = true := by
        obtain ⟨_, inf, z, _, _, _, _, _, h6, h7, _⟩ := hT.info t i hi
        simp only [List.all_map, List.all_eq_true]
        intro x hx
        obtain ⟨k, hk, rfl⟩ := List.getElem_of_mem hx
        have := (h7 k hk).2
        simpa [List.getD_eq_getElem?_getD, hk] using this
      exact boxA_made (t := t) hm hf h3 hone (fun u w' h4 => by simp [execOp, Instr.alloc, h2, h4])
  case box t x =>
    cases hi : T.info t with
    | none => rw [hi] at h1; cases h1
    | some i =>
      rw [hi] at h1; cases h1
      have hx := opd ht (eks1 hk)
      have hok' : (uv (evo tm x)).cells.length = i.size ∧ (uv (evo tm x)).cells.all AV.one = true := by
        unfold boxA at hok
        split at hok <;> exact of_decide_eq_true hok
      exact boxA_made (t := t) hm hf (cells_rep hx hok'.2).1 hok'.2 (fun u w' h4 => by simp [execOp, Instr.box, h4])
  case build t parts =>
    split at h1
    · cases h1
    · split at h1
      · rename_i cs hb
        cases h1
        have hf0 : Free C h id (.arr 0 own false []) := hf 0 _ rfl
        obtain ⟨g1, g2⟩ := hm.nilRow hf0
        have hgood := buildV_sound (P := P) (w := w) (C := C) (n := h.length) (T := T) (t := t) (l := parts.toList) (u := fun x => uv (evo tm x)) (e := a.eval) hT hok (fun p hp => by
          have hk' : eks true tm (parts.toList.map (·.2)) = true := hk
          simp only [eks, List.all_eq_true] at hk'
          exact opd ht (hk' p.2 (List.mem_map_of_mem hp)))
        obtain ⟨u, h2, h3⟩ := hgood
        rw [hb] at h3
        have h3' := h3.mono (hf0.ext (.nil 0) h.length) (Nat.le_refl _)
        refine makes_one (c := .nil 0) hf0 (v := u) ?_ g1 ?_
        · have : (Instr.build t (parts.map fun (i, x) => (i, a.eval x))).run P w = .ok u w := by simpa using h2
          simp [execOp, this]
        · cases e : ownNil (.arr id 0 0 0) cs with
          | none => simpa [e] using h3'
          | some cs' =>
            cases h3' with
            | agg _ vs k1 k2 =>
              obtain ⟨k3, k4, _⟩ := ownNil_rep (a := vs.toList) g2 rfl e (by simpa using k1) (fun k hk => by
                have := k2 k hk
                simpa [List.getD_eq_getElem?_getD, Array.getD_eq_getD_getElem?] using this)
              simp only [e, Option.getD_some]
              refine .agg _ _ (by omega) (fun k hk => ?_)
              have := k4 k (by rw [← k3]; exact hk)
              simpa [List.getD_eq_getElem?_getD, Array.getD_eq_getD_getElem?] using this
      · cases h1
  case makeMap t res =>
    cases res <;> simp only at h1 <;> try (cases h1; done)
    cases h1
    have hf0 : Free C h id (.map []) := hf 0 _ rfl
    exact makes_one (c := .map w.heap.size) hf0 (v := .map (some w.heap.size)) (w' := w.alloc (.map #[] 0)) (by simp [execOp, Instr.makeMap])
      (hm.place (below_alloc' w _) hf0 _ (fun B e => by cases e; simp) ⟨#[], 0, heap_alloc w _, rfl, fun k e hk => by simp at hk⟩) (.map _ _ hf0.lt (set_mu _ _ _))
  case buildSlice t len parts =>
    simp only [Option.bind_eq_some_iff, Option.map_eq_some_iff] at h1
    obtain ⟨e, h2, es, h3, rfl⟩ := h1
    simp only [decide_eq_true_eq] at hok
    obtain ⟨h4, h5, h6⟩ := hok
    obtain ⟨et, h7, h8⟩ := elemOf_inv hT h2
    obtain ⟨z, h9, h10, h11⟩ := zeroElem_rep (w := w) hT h8
    have hsz := run_sizeOf (w := w) hT h8
    have hrow := zero_row (M := C.M) (len := len) h10 h6 (h11 C.M) (m := len * e.size) (Nat.le_refl _)
    have hk' : eks true tm (parts.toList.map (·.2)) = true := hk
    obtain ⟨c', g1, g2, g3, g4⟩ := fillE_rep (C := C) (n := h.length) (u := fun x => uv (evo tm x)) (e := a.eval) parts.toList _ es _ (by simp) hrow (fun p hp => by
      simp only [eks, List.all_eq_true] at hk'
      exact opd ht (hk' p.2 (List.mem_map_of_mem hp))) h3
    simp only [List.length_replicate] at g2 g3
    obtain ⟨g5, g6⟩ := arr_made (w' := w.alloc (.cells c' et)) (B := w.heap.size) (cap := len) (et := et) hm (below_alloc' w _) (hf 0 _ rfl) (Nat.le_refl _) (by simp) (heap_alloc w _) h4 (by omega) (by omega) g4
    rw [g2] at g6
    refine makes_one (hf 0 _ rfl) ?_ g5 g6
    have hz0 : ¬ (len * e.size = 0 ∧ False) := by simp
    have hz0 : len * e.size = 0 → (Array.range (len * e.size)).map ((#[] : Array Value)[· % (#[] : Array Value).size]!) = (Array.range (len * e.size)).map (z.cells[· % z.cells.size]!) := fun hz => by simp [hz]
    have hf : Instr.fill (fun i => some (i * e.size, e.size)) ((Array.range (len * e.size)).map (z.cells[· % z.cells.size]!)) (parts.map fun (i, x) => (i, a.eval x)).toList = some c' := by simpa using g1
    have hrun : (Instr.buildSlice t len (parts.map fun (i, x) => (i, a.eval x))).run P w = .ok (.slice (some ⟨w.heap.size, 0, none⟩) len len) (w.alloc (.cells c' et)) := by
      simp only [Instr.buildSlice, Sem.run_bind, run_underlying h7, Result.andThen_ok, hsz, Sem.run_ite]
      rw [if_neg (by omega)]
      simp only [Sem.run_pure, Result.andThen_ok]
      split
      · rename_i hz
        rw [hz0 hz, hf]; rfl
      · rw [h9]; simp only [Result.andThen_ok]
        rw [hf]; rfl
    simp [execOp, hrun]
  case makeSlice t l c =>
    obtain ⟨hk1, hk2⟩ := eks2 hk
    have hl := opd ht hk1
    have hc := opd ht hk2
    split at h1
    · rename_i k1 n k2 m e1 e2
      rw [e1] at hl; rw [e2] at hc
      simp only [Option.map_eq_some_iff] at h1
      obtain ⟨e, h2, rfl⟩ := h1
      simp only [decide_eq_true_eq] at hok
      obtain ⟨h4, h5, h6, h7, h8, h9⟩ := hok
      obtain ⟨et, g1, g2⟩ := elemOf_inv hT h2
      obtain ⟨z, g3, g4, g5⟩ := zeroElem_rep (w := w) hT g2
      have hsz := run_sizeOf (w := w) hT g2
      obtain ⟨inf, g6, g7, g8⟩ := run_typeInfo (w := w) hT g2
      have hl' := int_inv hl
      have hc' := int_inv hc
      have wl : IntKind.i64.wrap n = n := wrap_small (by omega) (by omega)
      have wm : IntKind.i64.wrap m = m := wrap_small (by omega) (by omega)
      have hrow := zero_row (M := C.M) (len := n.toNat) g4 h9 (g5 C.M) (m := m.toNat * e.size) (Nat.mul_le_mul_right _ (by omega))
      obtain ⟨g9, g10⟩ := arr_made (w' := w.alloc (.cells ((Array.range (m.toNat * e.size)).map (z.cells[· % z.cells.size]!)) et)) (B := w.heap.size) (cap := m.toNat) (et := et) hm (below_alloc' w _) (hf 0 _ rfl) (Nat.le_refl _) (by simp) (heap_alloc w _) h4
        (by simp; omega) (by simp) hrow
      rw [List.length_replicate] at g10
      refine makes_one (hf 0 _ rfl) ?_ g9 g10
      have hby : ((inf.bytes : Int) * m > 2 ^ 48) = False := by
        rw [g8]; simp; omega
      have hz0 : m.toNat * e.size = 0 → (Array.range (m.toNat * e.size)).map ((#[] : Array Value)[· % (#[] : Array Value).size]!) = (Array.range (m.toNat * e.size)).map (z.cells[· % z.cells.size]!) := fun hz => by simp [hz]
      have hrun : (Instr.makeSlice t (a.eval l) (a.eval c)).run P w = .ok (.slice (some ⟨w.heap.size, 0, none⟩) n.toNat m.toNat) (w.alloc (.cells ((Array.range (m.toNat * e.size)).map (z.cells[· % z.cells.size]!)) et)) := by
        rw [hl', hc']
        simp only [Instr.makeSlice, Sem.run_bind, run_underlying g1, Result.andThen_ok, asInt, asIntOf, Sem.run_pure, g6, wl, wm, hby, Sem.run_ite]
        rw [if_neg (by simp; omega)]
        simp only [run_askRoom, Result.andThen_ok, hsz]
        split
        · rename_i hz
          rw [hz0 hz]; rfl
        · rw [g3]; rfl
      simp [execOp, hrun]
    · cases h1
  case assign x =>
    split at h1
    · rename_i hc
      have he : x = .const (.slice none 0 0) := by
        have := hc.2
        unfold isNilS at this
        split at this
        · rfl
        · cases this
      subst he
      cases h1
      have hf0 : Free C h id (.arr 0 own false []) := hf 0 _ rfl
      obtain ⟨g1, g2⟩ := hm.nilRow hf0
      exact makes_one hf0 rfl g1 g2
    · cases h1
  case call c =>
    obtain ⟨callee, args, argTypes⟩ := c
    cases callee <;> simp only at h1 <;> try (cases h1; done)
    rename_i b
    have hks : eks true tm args.toList = true := by simpa [opK] using hk
    cases b <;> simp only at h1 <;> try (cases h1; done)
    split at h1
    · rename_i s x t t' e1 e2
      have ha : args = #[s, x] := by obtain ⟨l⟩ := args; simpa using e1
      have hb : argTypes = #[t, t'] := by obtain ⟨l⟩ := argTypes; simpa using e2
      subst ha; subst hb
      obtain ⟨hk1, hk2⟩ : uk true (evo tm s) = true ∧ uk true (evo tm x) = true := by simpa [eks] using hks
      have hs := opd ht hk1
      have hx := opd ht hk2
      split at h1
      · rename_i e e' g1 g2 g3
        simp only [Option.map_eq_some_iff] at h1
        obtain ⟨xs, g4, rfl⟩ := h1
        simp only [decide_eq_true_eq] at hok
        rw [g1] at hs
        have hs' : a.eval s = .slice none 0 0 := by
          have := p_inv hs
          generalize a.eval s = v at this
          cases this with
          | nils => rfl
        obtain ⟨u, w', c, k1, k2, k3⟩ := appendNil_sound (P := P) (ty := type) hT hm hrd g2 g3 g4 hx (hf 0 _ rfl) hok
        exact makes_one (hf 0 _ rfl) (by simp [execOp, resolve, invoke, builtin, hs', k1]) k2 k3
      · cases h1
    · cases h1

end
end Go.En
namespace Go.En
open Go.RowKit

section
variable {P : Program} {T : Tab} {F : Base} {w w' : World} {C C' : Cx} {h rd : Hp} {n : Nat}

theorem at_set_same {o : Obj} {id : Nat} (hid : id < h.length) : Hp.at (h.set id o) id = o := by simp [Hp.at, hid]
theorem at_set_other {o : Obj} {id j : Nat} (hne : j ≠ id) : Hp.at (h.set id o) j = h.at j := by simp [Hp.at, Ne.symm hne]

/-- What one block's turn leaves. -/
def UpdOk (C C' : Cx) (id : Nat) : Prop := C'.M = C.M ∧ C'.K = C.K ∧ (C' = C ∨ ∀ r b, C'.μ id ≠ .loop r b)
theorem upd_same {C : Cx} {id : Nat} : UpdOk C C id := ⟨rfl, rfl, .inl rfl⟩
theorem upd_set {C : Cx} {id : Nat} {c : Cn} (h : ∀ r b, c ≠ .loop r b) : UpdOk C (C.set id c) id := ⟨rfl, rfl, .inr fun r b e => h r b (by rw [set_mu] at e; exact e)⟩

/-- One block of the call's own is another than it was. -/
theorem Mem.upd (hm : Mem F C h w) {id : Nat} (hid : id < h.length) (hU : UpdOk C C' id) (hμ : ∀ j, j ≠ id → C'.μ j = C.μ j) (hx : Ext h.length C C') {o' : Obj}
    (hos : w'.os = w.os) (htp : w'.tape = w.tape) (hout : w'.output = w.output) (hsize : w.heap.size ≤ w'.heap.size)
    (hw : ∀ B, B < w.heap.size → (C.μ id).blk ≠ some B → w'.heap[B]? = w.heap[B]?)
    (hcell : ∀ a v, C.M a = some v → w'.cell? a = some v)
    (hblk : ∀ B, (C'.μ id).blk = some B → (C.μ id).blk = some B ∨ (w.heap.size ≤ B ∧ B < w'.heap.size))
    (ho : ORep C' h.length w' (C'.μ id) o')
    (hsep : ∀ B, (C'.μ id).blk = some B → ∀ a v, C.M a = some v → a.block = B → ∃ g o cap sz es, C'.μ id = .arr g B o cap sz ∧ o' = .arr g sz true es ∧ a.off < o + es.length * sz) :
    Mem F C' (h.set id o') w' := by
  obtain ⟨hM, hK, hcb⟩ := hU
  have other : ∀ j B, j ≠ id → j < h.length → (C.μ j).blk = some B → w'.heap[B]? = w.heap[B]? := fun j B hj hjl e =>
    hw B (hm.lt j B hjl e).1 (fun e' => hj (hm.inj j id B hjl hid e e'))
  refine ⟨fun j hj => ?_, fun a v e => hcell a v (by rw [← hM]; exact e), fun a v e => hm.src a v (by rw [← hM]; exact e), fun j B hj e a v hv hab => ?_, fun i j B hi hj e1 e2 => ?_, fun j B hj e => ?_, fun B o e => ?_, fun B o e j hj e' => ?_, fun j r b hj e => ?_, ?_⟩
  · rw [List.length_set] at hj ⊢
    by_cases hji : j = id
    · subst hji; rw [at_set_same hid]; exact ho
    · rw [at_set_other hji, hμ j hji]
      exact (hm.objs j hj).mono hx (Nat.le_refl _) (fun B e => other j B hji hj e)
  · rw [List.length_set] at hj
    rw [hM] at hv
    by_cases hji : j = id
    · subst hji; rw [at_set_same hid]; exact hsep B e a v hv hab
    · rw [at_set_other hji]
      rw [hμ j hji] at e ⊢
      exact hm.sep j B hj e a v hv hab
  · rw [List.length_set] at hi hj
    by_cases h1 : i = id <;> by_cases h2 : j = id
    · omega
    · subst h1
      rw [hμ j h2] at e2
      rcases hblk B e1 with e3 | ⟨e3, _⟩
      · exact hm.inj i j B hi hj e3 e2
      · have := (hm.lt j B hj e2).1; omega
    · subst h2
      rw [hμ i h1] at e1
      rcases hblk B e2 with e3 | ⟨e3, _⟩
      · exact hm.inj i j B hi hj e1 e3
      · have := (hm.lt i B hi e1).1; omega
    · rw [hμ i h1] at e1; rw [hμ j h2] at e2
      exact hm.inj i j B hi hj e1 e2
  · rw [List.length_set] at hj
    by_cases hji : j = id
    · subst hji
      rcases hblk B e with e3 | ⟨e3, e4⟩
      · obtain ⟨h1, h2⟩ := hm.lt j B hj e3
        exact ⟨Nat.lt_of_lt_of_le h1 hsize, h2⟩
      · exact ⟨e4, .inr (Nat.le_trans hm.fr.size e3)⟩
    · rw [hμ j hji] at e
      obtain ⟨h1, h2⟩ := hm.lt j B hj e
      exact ⟨Nat.lt_of_lt_of_le h1 hsize, h2⟩
  · rw [hK] at e
    have h1 := hm.kept B o e
    rw [hw B (Array.getElem?_eq_some_iff.1 h1).1 (hm.ksep B o e id hid)]; exact h1
  · rw [List.length_set] at hj
    rw [hK] at e
    by_cases hji : j = id
    · subst hji
      rcases hblk B e' with e3 | ⟨e3, _⟩
      · exact hm.ksep B o e j hj e3
      · have := (Array.getElem?_eq_some_iff.1 (hm.kept B o e)).1
        omega
    · rw [hμ j hji] at e'
      exact hm.ksep B o e j hj e'
  · rw [List.length_set] at hj
    by_cases hji : j = id
    · subst hji
      rcases hcb with h1 | h1
      · subst h1; exact hm.bnd j r b hj e
      · exact absurd e (h1 r b)
    · rw [hμ j hji] at e
      exact hm.bnd j r b hj e
  · refine ⟨hos.trans hm.fr.os, htp.trans hm.fr.tape, hout.trans hm.fr.output, Nat.le_trans hm.fr.size hsize, fun k hk hs => ?_⟩
    rw [← hm.fr.block k hk hs]
    refine hw k (Nat.lt_of_lt_of_le hk hm.fr.size) (fun e => ?_)
    rcases (hm.lt id k hid e).2 with h1 | h1
    · exact hs h1
    · omega

theorem lower1 {m : Nat} {x : AV} {v : Value} (hr : ARep C n x v) (hb : below1 m x = true) : ARep C m x v := by
  cases hr <;> simp [below1] at hb
  · exact .p _ _ ‹_›
  · exact .ref _ _ _ hb ‹_›
  · exact .arr _ _ _ _ _ _ _ _ _ hb ‹_› ‹_› ‹_›
  · exact .arrN _ _ hb ‹_›
  · exact .arrS _ _ _ _ _ _ _ hb ‹_› ‹_›
  · exact .elt _ _ _ _ _ _ _ _ hb ‹_›
  · exact .eltS _ _ _ _ _ _ _ hb ‹_› ‹_›
  · exact .map _ _ hb ‹_›
  · exact .yl _ _ _ hb ‹_›

theorem LRep.mono {C C' : Cx} {n n' : Nat} {cs : List AV} {a : Array Value} (hr : LRep C n cs a) (h : Ext n C C') (hn : n ≤ n') : LRep C' n' cs a := ⟨hr.1, fun k hk => (hr.2 k hk).mono h hn⟩

theorem setRow_facts {B : Nat} {c c' : Array Value} {et : TypeId} (hb : w.heap[B]? = some (.cells c et (0, 0))) :
    (w.setRow B c').os = w.os ∧ (w.setRow B c').tape = w.tape ∧ (w.setRow B c').output = w.output ∧ (w.setRow B c').heap.size = w.heap.size ∧ (w.setRow B c').heap[B]? = some (.cells c' et (0, 0)) ∧
    ∀ k, k ≠ B → (w.setRow B c').heap[k]? = w.heap[k]? :=
  ⟨rfl, rfl, rfl, by simp, setRow_heap w B c c' et _ hb, fun k hk => setRow_other w B k c' hk⟩

end
end Go.En
namespace Go.En
open Go.RowKit

section
variable {P : Program} {T : Tab} {F : Base} {w w' : World} {C C' : Cx} {h rd : Hp} {n : Nat}

theorem setCells_inv {x y : PV} {off : Nat} {ps : List PV} (hs : x.setCells off ps = some y) (hone : ∀ p ∈ ps, (AV.p p).one = true) :
    off + ps.length ≤ x.cells.length ∧ y.cells.length = x.cells.length ∧ ∀ k, y.cells.getD k .nils = if k < off then x.cells.getD k .nils else if k < off + ps.length then ps.getD (k - off) .nils else x.cells.getD k .nils := by
  unfold PV.setCells at hs
  split at hs
  · rename_i cs
    split at hs
    · rename_i hle
      cases hs
      refine ⟨hle, by simp [PV.cells, spliceP]; omega, fun k => ?_⟩
      simp only [PV.cells, spliceP, List.getD_eq_getElem?_getD]
      rw [splice_get cs ps off k hle]
      split
      · rfl
      · split <;> rfl
    · cases hs
  · rename_i hne
    split at hs
    · rename_i y'
      cases hs
      have hx : x.cells = [x] := by cases x <;> first | rfl | exact absurd rfl (hne _)
      have hy : y.cells = [y] := by
        have := hone y (by simp)
        cases y <;> first | rfl | (simp [AV.one] at this)
      rw [hx, hy]
      refine ⟨by simp, rfl, fun k => ?_⟩
      cases k with
      | zero => simp
      | succ k => simp
    · cases hs

theorem toPs_one {cs : List AV} {ps : List PV} (h : toPs cs = some ps) (h1 : cs.all AV.one = true) : ∀ p ∈ ps, (AV.p p).one = true := by
  obtain ⟨h2, h3⟩ := toPs_inv h
  intro p hp
  obtain ⟨k, hk, rfl⟩ := List.getElem_of_mem hp
  have h4 := h3 k (by omega)
  simp only [List.all_eq_true] at h1
  have h5 := h1 (cs.getD k .undef) (by rw [List.getD_eq_getElem?_getD, List.getElem?_eq_getElem (by omega)]; exact List.getElem_mem _)
  rw [h4] at h5
  simpa [List.getD_eq_getElem?_getD, hk] using h5

theorem storeW_sound (hT : T.Ok P) (hm : Mem F C h w) {t : Nat} {x y : AV} {xv yv : Value} {h' : Hp} (hs : storeW T h t x y = some h') (hx : ARep C h.length x xv) (hy : ARep C h.length y yv) :
    ∃ w', (Instr.storeAt t xv yv).run P w = .ok () w' ∧ Mem F C h' w' ∧ h'.length = h.length := by
  unfold storeW at hs
  cases hi : T.info t with
  | none => rw [hi] at hs; cases hs
  | some i =>
    simp only [hi] at hs
    split at hs
    · rename_i hc
      obtain ⟨hc1, hc2⟩ := hc
      obtain ⟨⟨hl, hcr⟩, hone⟩ := cells_rep hy hc2
      have hsz := run_sizeOf (w := w) hT hi
      have hvs : yv.cells.toList.length = i.size := by simp [hl, hc1]
      have run : ∀ (B o : Nat) (c : Array Value) (et : TypeId), xv = .pointer (some ⟨B, o, none⟩) → w.heap[B]? = some (.cells c et (0, 0)) → o + i.size ≤ c.size →
          (Instr.storeAt t xv yv).run P w = .ok () (w.setRow B (c.toList.take o ++ yv.cells.toList ++ c.toList.drop (o + yv.cells.toList.length)).toArray) := by
        intro B o c et e hb hfit
        subst e
        have := run_storeCells_at P B o et yv.cells.toList 0 c w hb (by omega) hone
        simp only [Nat.add_zero] at this
        simp [Instr.storeAt, Instr.sureAddr, storeVar, hsz, hl, hc1, this]
      split at hs
      · rename_i id off
        split at hs
        · rename_i cs hid
          split at hs
          · rename_i hc3
            cases hs
            cases hx with
            | ref _ _ B h1 h2 =>
              have ho := hm.objs id h1
              rw [hid, h2] at ho
              obtain ⟨c, et, h3, h4, h5, h6⟩ := ho
              refine ⟨_, run B off c et rfl h3 (by omega), ?_, by simp⟩
              obtain ⟨q1, q2, q3, q4, q5, q6⟩ := setRow_facts (c' := (c.toList.take off ++ yv.cells.toList ++ c.toList.drop (off + yv.cells.toList.length)).toArray) h3
              refine hm.upd h1 upd_same (fun _ _ => rfl) (Ext.refl _ _) q1 q2 q3 (by rw [q4]; exact Nat.le_refl _) (fun B' _ hne => q6 B' (fun e => hne (by rw [h2, e]; rfl))) (fun a v hv => ?_) (fun B' e => .inl e) ?_ (fun B' e a v hv hab => ?_)
              · have hne : a.block ≠ B := fun e => by
                  obtain ⟨g, o, cap, sz, es, e1, _⟩ := hm.sep id B h1 (by rw [h2]; rfl) a v hv e
                  rw [h2] at e1; cases e1
                exact (World.cell?_of_block (q6 _ hne)).trans (hm.prot a v hv)
              · rw [h2]
                have hl' : LRep C h.length y.cells yv.cells := ⟨hl, hcr⟩
                have hsp := splice_rep (off := off) ⟨h4, h6⟩ hl' (by omega)
                refine ⟨_, et, q5, hsp.1, ?_, hsp.2⟩
                simp only [splice, List.all_append, Bool.and_eq_true]
                simp only [List.all_eq_true] at h5 hc2 ⊢
                exact ⟨⟨fun z hz => h5 z (List.mem_of_mem_take hz), hc2⟩, fun z hz => h5 z (List.mem_of_mem_drop hz)⟩
              · obtain ⟨g, o, cap, sz, es, e1, _⟩ := hm.sep id B' h1 e a v hv hab
                rw [h2] at e1; cases e1
          · cases hs
        · cases hs
      · rename_i id g j off
        split at hs
        · rename_i g' sz es ps hid hps
          split at hs
          · rename_i hcc
            obtain ⟨rfl, hj⟩ := hcc
            simp only [Option.bind_eq_some_iff, Option.map_eq_some_iff] at hs
            obtain ⟨p, hp, q, hq, rfl⟩ := hs
            obtain ⟨k1, k2⟩ := toPs_inv hps
            have kone := toPs_one hps hc2
            obtain ⟨k3, k4, k5⟩ := setCells_inv hq kone
            cases hx with
            | elt _ _ _ _ B o cap sz' h1 h2 =>
              have ho := hm.objs id h1
              rw [hid, h2] at ho
              obtain ⟨_, rfl, hsz0, h3, h4, c, et, h5, h6, h7⟩ := ho
              have hpl : p.cells.length = sz' := h4 p (List.mem_of_getElem? hp)
              have hrow : RowOk C.M sz' es c o := ⟨h4, h7⟩
              have hin := idx_lt (sz := sz') (j := 0) hj hsz0
              have hin2 : (j + 1) * sz' ≤ es.length * sz' := Nat.mul_le_mul_right _ hj
              rw [Nat.succ_mul] at hin2
              have hcap : es.length * sz' ≤ cap * sz' := Nat.mul_le_mul_right _ h3
              refine ⟨_, run B (o + j * sz' + off) c et rfl h5 (by omega), ?_, by simp⟩
              obtain ⟨q1, q2, q3, q4, q5, q6⟩ := setRow_facts (c' := (c.toList.take (o + j * sz' + off) ++ yv.cells.toList ++ c.toList.drop (o + j * sz' + off + yv.cells.toList.length)).toArray) h5
              have noM : ∀ a v, C.M a = some v → a.block ≠ B := fun a v hv e => by
                obtain ⟨g, o, cap, sz, es', e1, e2, _⟩ := hm.sep id B h1 (by rw [h2]; rfl) a v hv e
                rw [hid] at e2; cases e2
              refine hm.upd h1 upd_same (fun _ _ => rfl) (Ext.refl _ _) q1 q2 q3 (by rw [q4]; exact Nat.le_refl _) (fun B' _ hne => q6 B' (fun e => hne (by rw [h2, e]; rfl))) (fun a v hv => ?_) (fun B' e => .inl e) ?_ (fun B' e a v hv hab => ?_)
              · exact (World.cell?_of_block (q6 _ (noM a v hv))).trans (hm.prot a v hv)
              · rw [h2]
                have hnew : RowOk C.M sz' (es.set j q) (c.toList.take (o + j * sz' + off) ++ yv.cells.toList ++ c.toList.drop (o + j * sz' + off + yv.cells.toList.length)).toArray o := by
                  refine RowOk.of (fun z hz => ?_) (fun i' hi' k hk => ?_)
                  · rcases List.mem_or_eq_of_mem_set hz with h8 | h8
                    · exact h4 z h8
                    · rw [h8, k4, hpl]
                  · rw [List.length_set] at hi'
                    rw [arr_splice_getD (by omega)]
                    have hold := hrow.get hi' hk
                    by_cases hij : i' = j
                    · subst hij
                      have e1 : (es.set i' q).getD i' .nils = q := by simp [List.getD_eq_getElem?_getD, hi']
                      have e2 : es.getD i' .nils = p := by simp [List.getD_eq_getElem?_getD, hp]
                      rw [e1, k5 k]
                      rw [e2] at hold
                      by_cases c1 : k < off
                      · rw [if_pos c1, if_pos (by omega)]; exact hold
                      · by_cases c2 : k < off + ps.length
                        · rw [if_neg c1, if_pos c2, if_neg (by omega), if_pos (by omega)]
                          have e3 : o + (i' * sz' + k) - (o + i' * sz' + off) = k - off := by omega
                          rw [e3]
                          have h9 := hcr (k - off) (by omega)
                          rw [k2 (k - off) (by omega)] at h9
                          have h10 : yv.cells.toList.getD (k - off) Go.undef = yv.cells.getD (k - off) Go.undef := by simp [List.getD_eq_getElem?_getD, Array.getD_eq_getD_getElem?]
                          rw [h10]
                          refine ⟨p_inv h9, hone _ ?_⟩
                          have : k - off < yv.cells.size := by omega
                          simp [Array.getD_eq_getD_getElem?, this]
                        · rw [if_neg c1, if_neg c2, if_neg (by omega), if_neg (by omega)]; exact hold
                    · have e1 : (es.set j q).getD i' .nils = es.getD i' .nils := by simp [List.getD_eq_getElem?_getD, Ne.symm hij]
                      rw [e1]
                      rcases Nat.lt_or_gt_of_ne hij with h8 | h8
                      · have : (i' + 1) * sz' ≤ j * sz' := Nat.mul_le_mul_right _ h8
                        rw [Nat.succ_mul] at this
                        rw [if_pos (by omega)]; exact hold
                      · have : (j + 1) * sz' ≤ i' * sz' := Nat.mul_le_mul_right _ h8
                        rw [Nat.succ_mul] at this
                        rw [if_neg (by omega), if_neg (by omega)]; exact hold
                refine ⟨rfl, rfl, hsz0, by simpa using h3, hnew.1, _, et, q5, ?_, hnew.2⟩
                simp; omega
              · exact absurd (by rw [h2] at e; cases e; exact hab) (noM a v hv)
            | eltS _ _ _ _ g' _ _ h1 h2 h3 =>
              have ho := hm.objs id h1
              rw [hid] at ho
              cases hc : C.μ id <;> rw [hc] at ho h2 <;> simp [Cn.gen] at h2
              · obtain ⟨h4, _⟩ := ho; omega
              · obtain ⟨h4, _⟩ := ho; omega
          · cases hs
        · cases hs
      · cases hs
    · cases hs

end
end Go.En
namespace Go.En
open Go.RowKit

section
variable {P : Program} {T : Tab} {F : Base} {w w' : World} {C C' : Cx} {h rd : Hp} {n : Nat}

theorem splice_get' {α : Type} (cs vs : List α) (off k : Nat) (hle : off ≤ cs.length) :
    (cs.take off ++ vs ++ cs.drop (off + vs.length))[k]? = if k < off then cs[k]? else if k < off + vs.length then vs[k - off]? else cs[k]? := by
  have h3 : (cs.take off).length = off := by simp; omega
  rw [List.append_assoc]
  by_cases c1 : k < off
  · rw [List.getElem?_append_left (by omega), List.getElem?_take_of_lt c1, if_pos c1]
  · rw [List.getElem?_append_right (by omega), h3, if_neg c1]
    by_cases c2 : k < off + vs.length
    · rw [List.getElem?_append_left (by omega), if_pos c2]
    · rw [List.getElem?_append_right (by omega), List.getElem?_drop, if_neg c2, show off + vs.length + (k - off - vs.length) = k from by omega]

/-- Elements written over a row, from element p on. -/
theorem RowOk.splice {M : Addr → Option Value} {sz : Nat} {es xs : List PV} {c : Array Value} {o p : Nat} {news : List Value} (hr : RowOk M sz es c o) (hp : p ≤ es.length) (hx : ∀ y ∈ xs, y.cells.length = sz)
    (hl : news.length = xs.length * sz) (hn : ∀ k, k < (flat xs).length → PRep M ((flat xs).getD k .nils) (news.getD k Go.undef)) (h1 : ∀ u ∈ news, u.oneCell' = true) (hfit : o + p * sz + news.length ≤ c.size) :
    RowOk M sz (es.take p ++ xs ++ es.drop (p + xs.length)) (c.toList.take (o + p * sz) ++ news ++ c.toList.drop (o + p * sz + news.length)).toArray o := by
  refine RowOk.of (fun y hy => ?_) (fun i hi j hj => ?_)
  · simp only [List.mem_append] at hy
    rcases hy with (h | h) | h
    · exact hr.1 y (List.mem_of_mem_take h)
    · exact hx y h
    · exact hr.1 y (List.mem_of_mem_drop h)
  · rw [arr_splice_getD (by omega)]
    have e0 : ∀ k, (es.take p ++ xs ++ es.drop (p + xs.length)).getD k .nils = if k < p then es.getD k .nils else if k < p + xs.length then xs.getD (k - p) .nils else es.getD k .nils := by
      intro k
      rw [List.getD_eq_getElem?_getD, splice_get' es xs p k hp]
      split
      · rw [List.getD_eq_getElem?_getD]
      · split <;> rw [List.getD_eq_getElem?_getD]
    rw [e0]
    have hil : i < es.length ∨ i < p + xs.length := by
      simp at hi; omega
    rcases Nat.lt_or_ge i p with c1 | c1
    · have : (i + 1) * sz ≤ p * sz := Nat.mul_le_mul_right _ c1
      rw [Nat.succ_mul] at this
      rw [if_pos c1, if_pos (by omega)]
      exact hr.get (by omega) hj
    · have hpi : p * sz ≤ i * sz := Nat.mul_le_mul_right _ c1
      rcases Nat.lt_or_ge i (p + xs.length) with c2 | c2
      · have hk : i - p < xs.length := by omega
        have hlt := idx_lt hk hj
        have e1 : i * sz + j = p * sz + ((i - p) * sz + j) := by rw [Nat.sub_mul]; omega
        rw [if_neg (by omega), if_pos c2, if_neg (by omega), if_pos (by omega)]
        have e2 : o + (i * sz + j) - (o + p * sz) = (i - p) * sz + j := by omega
        rw [e2]
        have h2 := hn ((i - p) * sz + j) (by rw [flat_length hx]; exact hlt)
        rw [flat_get hx hk hj] at h2
        refine ⟨h2, h1 _ ?_⟩
        rw [List.getD_eq_getElem?_getD, List.getElem?_eq_getElem (by omega)]
        exact List.getElem_mem _
      · have : (p + xs.length) * sz ≤ i * sz := Nat.mul_le_mul_right _ c2
        rw [Nat.add_mul] at this
        rw [if_neg (by omega), if_neg (by omega), if_neg (by omega), if_neg (by omega)]
        exact hr.get (by omega) hj

theorem RowOk.drop {M : Addr → Option Value} {sz : Nat} {es : List PV} {c : Array Value} {o off : Nat} (hr : RowOk M sz es c o) : RowOk M sz (es.drop off) c (o + off * sz) := by
  refine RowOk.of (fun y hy => hr.1 y (List.mem_of_mem_drop hy)) (fun i hi j hj => ?_)
  have hi' : off + i < es.length := by simp at hi; omega
  have e1 : (es.drop off).getD i .nils = es.getD (off + i) .nils := by simp [List.getD_eq_getElem?_getD, List.getElem?_drop]
  rw [e1]
  have := hr.get hi' hj
  rw [Nat.add_mul] at this
  rw [show o + off * sz + (i * sz + j) = o + (off * sz + i * sz + j) from by omega]
  exact this

/-- append where there is room. -/
theorem run_append_fits (hT : T.Ok P) {t t' ty et et' et0 : Nat} {e : TI} {B a sLen sCap m : Nat} {x : Value} {c : Array Value} {news : List Value} (ht : P.underlying t = some (.slice et)) (ht' : P.underlying t' = some (.slice et'))
    (he : T.info et = some e) (hn : (Builtin.firstCells e.size m x).run P w = .ok news.toArray w) (hl : Builtin.lenOf x = pure m)
    (hb : w.heap[B]? = some (.cells c et0 (0, 0))) (h1 : ∀ u ∈ news, u.oneCell' = true) (hfit : a + sLen * e.size + news.length ≤ c.size) (hroom : sLen + m ≤ sCap) :
    (Builtin.append_ #[t, t'] ty #[.slice (some ⟨B, a, none⟩) sLen sCap, x]).run P w =
      .ok (.slice (some ⟨B, a, none⟩) (sLen + m) sCap) (w.setRow B (c.toList.take (a + sLen * e.size) ++ news ++ c.toList.drop (a + sLen * e.size + news.length)).toArray) := by
  have hsz := run_sizeOf (w := w) hT he
  have hst := run_storeCells_at P B (a + sLen * e.size) et0 news 0 c w hb (by omega) h1
  simp only [Nat.add_zero] at hst
  simp [Builtin.append_, run_underlying ht, run_underlying ht', hsz, hl, hroom, hn, add_at, hst]

end
end Go.En
namespace Go.En
open Go.RowKit

section
variable {P : Program} {T : Tab} {F : Base} {w w' : World} {C C' : Cx} {h rd : Hp} {n : Nat}

theorem arr_live (hm : Mem F C h w) {id g off len g' sz : Nat} {sh : Bool} {es : List PV} {v : Value} (hid : h.at id = .arr g' sz sh es) (hg : g = g') (hr : ARep C h.length (.arr id g off len) v) :
    (∃ B o cap a, id < h.length ∧ C.μ id = .arr g B o cap sz ∧ off + len ≤ cap ∧ (a = o + off * sz ∨ off = cap) ∧ v = .slice (some ⟨B, a, none⟩) len (cap - off) ∧ 0 < sz ∧ es.length ≤ cap ∧
      ∃ c et, w.heap[B]? = some (.cells c et (0, 0)) ∧ o + cap * sz ≤ c.size ∧ RowOk C.M sz es c o) ∨ (id < h.length ∧ C.μ id = .nil g ∧ es = [] ∧ off = 0 ∧ len = 0 ∧ v = .slice none 0 0) := by
  subst hg
  cases hr with
  | arr _ _ _ _ B o cap sz' a h1 h2 h3 h4 =>
    have ho := hm.objs id h1
    rw [hid, h2] at ho
    obtain ⟨_, rfl, hsz0, h5, h6, c, et, h7, h8, h9⟩ := ho
    exact .inl ⟨B, o, cap, a, h1, h2, h3, h4, rfl, hsz0, h5, c, et, h7, h8, h6, h9⟩
  | arrN _ _ h1 h2 =>
    have ho := hm.objs id h1
    rw [hid, h2] at ho
    exact .inr ⟨h1, h2, ho.2, rfl, rfl, rfl⟩
  | arrS _ _ _ _ g' a cap h1 h2 h3 =>
    have ho := hm.objs id h1
    rw [hid] at ho
    cases hc : C.μ id <;> rw [hc] at ho h2 <;> simp [Cn.gen] at h2
    · obtain ⟨h4, _⟩ := ho; omega
    · obtain ⟨h4, _⟩ := ho; omega

theorem noM (hm : Mem F C h w) {id : Nat} (hid : id < h.length) {g sz : Nat} {es : List PV} (ho : h.at id = .arr g sz false es) {B : Nat} (hB : (C.μ id).blk = some B) : ∀ a v, C.M a = some v → a.block ≠ B := by
  intro a v hv e
  obtain ⟨g, o, cap, sz, es', e1, e2, _⟩ := hm.sep id B hid hB a v hv e
  rw [ho] at e2; cases e2

theorem Cx.set_bump {C : Cx} {id g g' : Nat} {c : Cn} (h1 : (C.μ id).gen = some g) (h2 : c.gen = some g') (h3 : g < g') (n : Nat) : Ext n C (C.set id c) := by
  refine ⟨fun _ _ h => h, fun _ _ h => h, rfl, fun j _ => ?_⟩
  by_cases e : j = id
  · subst e; exact .inr (.inl ⟨g, g', h1, by rw [set_mu]; exact h2, h3⟩)
  · exact .inl (by simp [Cx.set, e])

theorem append_sound (hT : T.Ok P) (hm : Mem F C h w) {t t' ty : Nat} {e e' : TI} {x : AV} {sv v : Value} {xs : List PV} {id g off len sz : Nat} {sh : Bool} {es : List PV} {r : Hp × AV}
    (hid : h.at id = .arr g sz sh es) (he : elemOf T t = some e) (he' : elemOf T t' = some e') (hp : pic h x = some xs) (hs : ARep C h.length (.arr id g off len) sv) (hr : ARep C h.length x v)
    (h0 : 0 < sz) (hsz : sz = e.size) (h2 : (len + xs.length) * e.bytes ≤ 1099511627776) (h3 : len + xs.length ≤ 1099511627776) (h4 : ∀ y ∈ xs, y.cells.length = e.size)
    (hres : (if off + len = es.length then (if off = 0 ∧ xs.length = 0 then some (h, .arr id g off len) else some (h.set id (.arr (g + xs.length + (if off = 0 then 0 else 1)) sz sh (es.drop off ++ xs)), .arr id (g + xs.length + (if off = 0 then 0 else 1)) 0 (len + xs.length)))
      else if off + len + xs.length ≤ es.length ∧ sh = false then some (h.set id (.arr g sz sh (es.take (off + len) ++ xs ++ es.drop (off + len + xs.length))), .arr id g off (len + xs.length)) else none) = some r) :
    ∃ u w' C', (Builtin.append_ #[t, t'] ty #[sv, v]).run P w = .ok u w' ∧ Ext h.length C C' ∧ Mem F C' r.1 w' ∧ r.1.length = h.length ∧ ARep C' h.length r.2 u ∧ ∀ j, j ≠ id → C'.μ j = C.μ j := by
  subst hsz
  obtain ⟨et, g1, g2⟩ := elemOf_inv hT he
  obtain ⟨et', g1', _⟩ := elemOf_inv hT he'
  obtain ⟨news, k1, k2, k3, k4, k5⟩ := pic_cells (P := P) h4 (pic_rep hm (fun _ _ => rfl) hp hr)
  have hszr := run_sizeOf (w := w) hT g2
  rcases arr_live hm hid rfl hs with ⟨B, o, cap, a, hidl, hμ, hcap, ha, rfl, _, hes, c, et0, hB, hfit, hrow⟩ | ⟨hidl, hμ, rfl, rfl, rfl, rfl⟩
  · -- a row that is there
    by_cases hroom : len + xs.length ≤ cap - off
    · -- there is room
      have key : off + len ≤ es.length → ∃ c', (Builtin.append_ #[t, t'] ty #[.slice (some ⟨B, a, none⟩) len (cap - off), v]).run P w = .ok (.slice (some ⟨B, a, none⟩) (len + xs.length) (cap - off)) (w.setRow B c') ∧ c'.size = c.size ∧
          RowOk C.M e.size (es.take (off + len) ++ xs ++ es.drop (off + len + xs.length)) c' o ∧ ∀ k, k < o + (off + len) * e.size → c'[k]? = c[k]? := by
        intro hple
        by_cases hx0 : xs.length = 0
        · have hxs : xs = [] := List.eq_nil_of_length_eq_zero hx0
          subst hxs
          have hn0 : news = [] := List.eq_nil_of_length_eq_zero (by simpa using k1)
          subst hn0
          refine ⟨c, ?_, rfl, by simpa using hrow, fun _ _ => rfl⟩
          rw [setRow_self w B c et0 _ hB]
          have := k2 w rfl
          simp only [List.length_nil] at this k3
          have hle : len ≤ cap - off := by omega
          simp [Builtin.append_, run_underlying g1, run_underlying g1', hszr, k3, this, hle, storeCells]
        · have ha' : a = o + off * e.size := by
            rcases ha with ha | ha
            · exact ha
            · omega
          subst ha'
          have hpos : o + off * e.size + len * e.size = o + (off + len) * e.size := by rw [Nat.add_mul]; omega
          have hmul : (off + len + xs.length) * e.size ≤ cap * e.size := Nat.mul_le_mul_right _ (by omega)
          rw [Nat.add_mul] at hmul
          refine ⟨_, run_append_fits (et0 := et0) hT g1 g1' g2 (k2 w rfl) k3 hB k5 (by rw [hpos, k1]; omega) hroom, ?_, ?_, ?_⟩
          · simp; omega
          · rw [hpos]; exact hrow.splice hple h4 k1 k4 k5 (by rw [k1]; omega)
          · intro k hk
            rw [hpos, List.getElem?_toArray, splice_get' _ _ _ _ (by simp; omega), if_pos hk]
            simp
      split at hres
      · rename_i hfull
        obtain ⟨c', r1, r2, r3, r4⟩ := key (by omega)
        obtain ⟨q1, q2, q3, q4, q5, q6⟩ := setRow_facts (c' := c') hB
        have e1 : es.take (off + len) ++ xs ++ es.drop (off + len + xs.length) = es ++ xs := by
          rw [hfull, List.take_length, List.drop_eq_nil_of_le (by omega), List.append_nil]
        rw [e1] at r3
        split at hres
        · rename_i hz
          cases hres
          have hxs : xs = [] := List.eq_nil_of_length_eq_zero hz.2
          subst hxs
          refine ⟨_, _, C, r1, Ext.refl _ _, ?_, rfl, ?_, fun _ _ => rfl⟩
          · have hu := hm.upd (C' := C) (o' := .arr g e.size sh es) (w' := w.setRow B c') hidl upd_same (fun _ _ => rfl) (Ext.refl _ _) q1 q2 q3 (by rw [q4]; exact Nat.le_refl _) (fun B' _ hne => q6 B' (fun e => hne (by rw [hμ, e]; rfl)))
              (fun a v hv => ?_) (fun B' e => .inl e) ?_ (fun B' e1 a v hv hab => ?_)
            · have : h.set id (.arr g e.size sh es) = h := by
                apply List.ext_getElem?
                intro j
                by_cases hj : j = id
                · subst hj
                  rw [List.getElem?_set_self hidl]
                  have := hid
                  simp only [Hp.at, List.getElem?_eq_getElem hidl, Option.getD_some] at this
                  rw [List.getElem?_eq_getElem hidl, this]
                · rw [List.getElem?_set_ne (Ne.symm hj)]
              rw [this] at hu; exact hu
            · by_cases hab : a.block = B
              · obtain ⟨g', o', cap', sz', es', s1, s2, s3⟩ := hm.sep id B hidl (by rw [hμ]; rfl) a v hv hab
                rw [hμ] at s1; cases s1
                rw [hid] at s2; cases s2
                have hcl := hm.prot a v hv
                have hsp : a.spot = none := by
                  unfold World.cell? at hcl; rw [hab, hB] at hcl; simp only at hcl
                  split at hcl
                  · cases hcl
                  · rename_i hs; simpa using hs
                have ea : a = ⟨B, a.off, none⟩ := by cases a; simp at hab hsp; subst hab; subst hsp; rfl
                rw [ea] at hcl ⊢
                rw [cell_of_block hB] at hcl
                rw [cell_of_block q5, r4 _ (by rw [hfull]; exact s3)]; exact hcl
              · exact (World.cell?_of_block (q6 _ hab)).trans (hm.prot a v hv)
            · rw [hμ]
              refine ⟨rfl, rfl, h0, hes, hrow.1, c', et0, q5, by omega, ?_⟩
              have := r3; rw [List.append_nil] at this; exact this.2
            · obtain ⟨g', o', cap', sz', es', s1, s2, s3⟩ := hm.sep id B' hidl e1 a v hv hab
              rw [hid] at s2; cases s2
              exact ⟨_, o', cap', _, es, s1, rfl, s3⟩
          · simpa using ARep.arr id g off len B o cap e.size a hidl hμ hcap ha
        · rename_i hz
          cases hres
          let G := g + xs.length + (if off = 0 then 0 else 1)
          have hG : g < G := by
            show g < g + xs.length + (if off = 0 then 0 else 1)
            split
            · have : xs.length ≠ 0 := fun e => hz ⟨by assumption, e⟩
              omega
            · omega
          have hC := Cx.set_bump (C := C) (id := id) (g := g) (g' := G) (c := .arr G B (o + off * e.size) (cap - off) e.size) (by rw [hμ]; rfl) rfl hG h.length
          refine ⟨_, _, C.set id (.arr G B (o + off * e.size) (cap - off) e.size), r1, hC, ?_, by simp, ?_, fun j hj => set_mu_other hj⟩
          · refine hm.upd (C' := C.set id (.arr G B (o + off * e.size) (cap - off) e.size)) hidl (upd_set (by intro _ _ e; cases e)) (fun j hj => set_mu_other hj) hC q1 q2 q3 (by rw [q4]; exact Nat.le_refl _) (fun B' _ hne => q6 B' (fun e => hne (by rw [hμ, e]; rfl)))
              (fun a v hv => ?_) (fun B' e => .inl (by rw [set_mu] at e; rw [hμ]; exact e)) ?_ (fun B' e' a v hv hab => ?_)
            · by_cases hab : a.block = B
              · obtain ⟨g', o', cap', sz', es', s1, s2, s3⟩ := hm.sep id B hidl (by rw [hμ]; rfl) a v hv hab
                rw [hμ] at s1; cases s1
                rw [hid] at s2; cases s2
                have hcl := hm.prot a v hv
                have hsp : a.spot = none := by
                  unfold World.cell? at hcl; rw [hab, hB] at hcl; simp only at hcl
                  split at hcl
                  · cases hcl
                  · rename_i hs; simpa using hs
                have ea : a = ⟨B, a.off, none⟩ := by cases a; simp at hab hsp; subst hab; subst hsp; rfl
                rw [ea] at hcl ⊢
                rw [cell_of_block hB] at hcl
                rw [cell_of_block q5, r4 _ (by rw [hfull]; exact s3)]; exact hcl
              · exact (World.cell?_of_block (q6 _ hab)).trans (hm.prot a v hv)
            · rw [set_mu]
              have hd := r3.drop (off := off)
              rw [List.drop_append_of_le_length (by omega)] at hd
              refine ⟨rfl, rfl, h0, by simp; omega, hd.1, c', et0, q5, ?_, hd.2⟩
              rw [r2, Nat.sub_mul]
              have : off * e.size ≤ cap * e.size := Nat.mul_le_mul_right _ (by omega)
              omega
            · rw [set_mu] at e' ⊢
              cases e'
              obtain ⟨g', o', cap', sz', es', s1, s2, s3⟩ := hm.sep id B hidl (by rw [hμ]; rfl) a v hv hab
              rw [hμ] at s1; cases s1
              rw [hid] at s2; cases s2
              refine ⟨G, _, _, _, _, rfl, rfl, ?_⟩
              have : (es.drop off ++ xs).length = es.length - off + xs.length := by simp
              rw [this, Nat.add_mul, Nat.sub_mul]
              have : off * e.size ≤ es.length * e.size := Nat.mul_le_mul_right _ (by omega)
              omega
          · have hcc : 0 + (len + xs.length) ≤ cap - off := by omega
            have haa : a = o + off * e.size + 0 * e.size ∨ 0 = cap - off := by
              clear key r1 r2 r3 r4 q1 q2 q3 q4 q5 q6 hC
              rcases ha with ha | ha
              · left; rw [Nat.zero_mul]; exact ha
              · right; rw [ha]; exact (Nat.sub_self _).symm
            have := ARep.arr (C := C.set id (.arr G B (o + off * e.size) (cap - off) e.size)) (n := h.length) id G 0 (len + xs.length) B (o + off * e.size) (cap - off) e.size a hidl (set_mu _ _ _) hcc haa
            simpa using this
      · split at hres
        · rename_i hfull hpart
          obtain ⟨hpl, rfl⟩ := hpart
          cases hres
          obtain ⟨c', r1, r2, r3, r4⟩ := key (by omega)
          obtain ⟨q1, q2, q3, q4, q5, q6⟩ := setRow_facts (c' := c') hB
          have hno := noM hm hidl hid (B := B) (by rw [hμ]; rfl)
          refine ⟨_, _, C, r1, Ext.refl _ _, ?_, by simp, ?_, fun _ _ => rfl⟩
          · refine hm.upd hidl upd_same (fun _ _ => rfl) (Ext.refl _ _) q1 q2 q3 (by rw [q4]; exact Nat.le_refl _) (fun B' _ hne => q6 B' (fun e => hne (by rw [hμ, e]; rfl)))
              (fun a v hv => (World.cell?_of_block (q6 _ (hno a v hv))).trans (hm.prot a v hv)) (fun B' e => .inl e) ?_ (fun B' e1 a v hv hab => ?_)
            · rw [hμ]
              have hln : (es.take (off + len) ++ xs ++ es.drop (off + len + xs.length)).length ≤ cap := by
                simp only [List.length_append, List.length_take, List.length_drop]; omega
              exact ⟨rfl, rfl, h0, hln, r3.1, c', et0, q5, by rw [r2]; exact hfit, r3.2⟩
            · exact absurd (by rw [hμ] at e1; cases e1; exact hab) (hno a v hv)
          · have := ARep.arr (C := C) (n := h.length) id g off (len + xs.length) B o cap e.size a hidl hμ (by omega) ha
            simpa using this
        · cases hres
    · -- a new block
      have hfull : off + len = es.length := by
        by_cases hf : off + len = es.length
        · exact hf
        · rw [if_neg hf] at hres
          split at hres
          · omega
          · cases hres
      rw [if_pos hfull, if_neg (by omega)] at hres
      cases hres
      have hold : ∀ y ∈ es.drop off, y.cells.length = e.size := fun y hy => hrow.1 y (List.mem_of_mem_drop hy)
      have hpic : pic h (.arr id g off len) = some (es.drop off) := by
        simp only [pic, hid]
        rw [if_pos ⟨trivial, by omega⟩, List.take_of_length_le (by simp; omega)]
      obtain ⟨olds, o1, o2, o3, o4, o5⟩ := pic_cells (P := P) hold (pic_rep hm (fun _ _ => rfl) hpic hs)
      have hdl : (es.drop off).length = len := by simp; omega
      rw [hdl] at o1 o2
      obtain ⟨z, cap', r1, r2, r3, r4⟩ := run_append_new (P := P) (w := w) (ty := ty) hT g1 g1' g2 o2 k2 k3 (by omega) h3 h2
      let G := g + xs.length + (if off = 0 then 0 else 1)
      have hG : g < G := by
        show g < g + xs.length + (if off = 0 then 0 else 1)
        have : xs.length ≠ 0 := by omega
        omega
      have hC := Cx.set_bump (C := C) (id := id) (g := g) (g' := G) (c := .arr G w.heap.size 0 cap' e.size) (by rw [hμ]; rfl) rfl hG h.length
      have hall : ∀ y ∈ es.drop off ++ xs, y.cells.length = e.size := fun y hy => by
        rcases List.mem_append.1 hy with hh | hh
        · exact hold y hh
        · exact h4 y hh
      have hfl1 := flat_length hold
      have hfl2 := flat_length h4
      have hrow' : RowOk C.M e.size (es.drop off ++ xs) (olds.toArray ++ news.toArray ++ Builtin.zeroCells z.cells (cap' - (len + xs.length))) 0 := by
        refine ⟨hall, fun k hk => ?_⟩
        have hfla : flat (es.drop off ++ xs) = flat (es.drop off) ++ flat xs := by simp [flat]
        rw [hfla] at hk ⊢
        rw [List.length_append, hfl1, hfl2, hdl] at hk
        rw [Nat.zero_add, Array.getD_eq_getD_getElem?, List.getD_eq_getElem?_getD, Array.append_assoc]
        by_cases c1 : k < olds.length
        · rw [Array.getElem?_append_left (by simpa using c1), List.getElem?_append_left (by rw [hfl1, hdl, ← o1]; exact c1)]
          have h5 := o4 k (by rw [hfl1, hdl, ← o1]; exact c1)
          refine ⟨by simpa [List.getD_eq_getElem?_getD] using h5, ?_⟩
          have := o5 (olds[k]) (List.getElem_mem c1)
          simpa [c1] using this
        · have c2 : k - olds.length < news.length := by omega
          rw [Array.getElem?_append_right (by simp; omega), Array.getElem?_append_left (by simpa using c2), List.getElem?_append_right (by rw [hfl1, hdl, ← o1]; omega), hfl1, hdl, ← o1]
          have h5 := k4 (k - olds.length) (by rw [hfl2, ← k1]; exact c2)
          refine ⟨by simpa [List.getD_eq_getElem?_getD] using h5, ?_⟩
          have := k5 (news[k - olds.length]) (List.getElem_mem c2)
          simpa [c2] using this
      have hbel := below_drew_alloc w (.cells (olds.toArray ++ news.toArray ++ Builtin.zeroCells z.cells (cap' - (len + xs.length))) et)
      refine ⟨_, _, C.set id (.arr G w.heap.size 0 cap' e.size), r4, hC, ?_, by simp, ?_, fun j hj => set_mu_other hj⟩
      · refine hm.upd (C' := C.set id (.arr G w.heap.size 0 cap' e.size)) hidl (upd_set (by intro _ _ e; cases e)) (fun j hj => set_mu_other hj) hC hbel.os hbel.tape hbel.output hbel.size (fun B' hB' _ => hbel.block B' hB') (fun a v hv => (hbel.cell (cell_lt (hm.prot a v hv))).trans (hm.prot a v hv))
          (fun B' e' => by rw [set_mu] at e'; cases e'; exact .inr ⟨Nat.le_refl _, by simp⟩) ?_ (fun B' e' a v hv hab => ?_)
        · rw [set_mu]
          refine ⟨rfl, rfl, h0, by simp; omega, hrow'.1, _, et, heap_alloc_new w.drew _, ?_, hrow'.2⟩
          simp only [Array.size_append, List.size_toArray, size_zeroCells, k1, o1, r3]
          rw [← Nat.add_mul, ← Nat.add_mul, Nat.zero_add]; exact Nat.mul_le_mul_right _ (by omega)
        · rw [set_mu] at e'; cases e'
          have := cell_lt (hm.prot a v hv)
          omega
      · have := ARep.arr (C := C.set id (.arr G w.heap.size 0 cap' e.size)) (n := h.length) id G 0 (len + xs.length) w.heap.size 0 cap' e.size 0 hidl (set_mu _ _ _) (by omega) (.inl (by omega))
        simpa using this
  · -- nothing yet
    simp only [List.length_nil, Nat.add_zero, if_true, true_and, List.drop_nil, List.nil_append, Nat.zero_add] at hres h2 h3
    by_cases hx0 : xs.length = 0
    · rw [if_pos hx0] at hres
      cases hres
      have hxs : xs = [] := List.eq_nil_of_length_eq_zero hx0
      subst hxs
      refine ⟨.slice none 0 0, w, C, ?_, Ext.refl _ _, hm, rfl, .arrN _ _ hidl hμ, fun _ _ => rfl⟩
      have k2' := k2 w rfl
      have hn0 : news = [] := List.eq_nil_of_length_eq_zero (by simpa using k1)
      subst hn0
      simp only [List.length_nil] at k2' k3
      simp [Builtin.append_, run_underlying g1, run_underlying g1', hszr, k3, k2']
    · rw [if_neg hx0] at hres
      cases hres
      obtain ⟨z, cap', r1, r2, r3, r4⟩ := run_append_new (P := P) (w := w) (ty := ty) (olds := []) (base := none) (sLen := 0) (sCap := 0) hT g1 g1' g2 (fun w' _ => rfl) k2 k3 (by omega) (by omega) (by rw [Nat.zero_add]; exact h2)
      rw [Nat.zero_add] at r1 r4
      have hfl := flat_length h4
      have hrow : RowOk C.M e.size xs (([] : List Value).toArray ++ news.toArray ++ Builtin.zeroCells z.cells (cap' - xs.length)) 0 := by
        refine ⟨h4, fun k hk => ?_⟩
        have hk' : k < news.length := by rw [k1, ← hfl]; exact hk
        have e1 : (([] : List Value).toArray ++ news.toArray ++ Builtin.zeroCells z.cells (cap' - xs.length)).getD (0 + k) Go.undef = news.getD k Go.undef := by
          rw [Nat.zero_add, Array.getD_eq_getD_getElem?, List.getD_eq_getElem?_getD, Array.append_assoc, Array.getElem?_append_right (by simp), Array.getElem?_append_left (by simpa using hk')]
          simp
        rw [e1]
        exact ⟨k4 k hk, k5 _ (by rw [List.getD_eq_getElem?_getD, List.getElem?_eq_getElem hk']; exact List.getElem_mem _)⟩
      have hbel := below_drew_alloc w (.cells (([] : List Value).toArray ++ news.toArray ++ Builtin.zeroCells z.cells (cap' - xs.length)) et)
      have hC := Cx.set_bump (C := C) (id := id) (g := g) (g' := g + xs.length) (c := .arr (g + xs.length) w.heap.size 0 cap' e.size) (by rw [hμ]; rfl) rfl (by omega) h.length
      refine ⟨_, _, C.set id (.arr (g + xs.length) w.heap.size 0 cap' e.size), r4, hC, ?_, by simp, ?_, fun j hj => set_mu_other hj⟩
      · refine hm.upd (C' := C.set id (.arr (g + xs.length) w.heap.size 0 cap' e.size)) hidl (upd_set (by intro _ _ e; cases e)) (fun j hj => set_mu_other hj) hC hbel.os hbel.tape hbel.output hbel.size (fun B' hB' _ => hbel.block B' hB') (fun a v hv => (hbel.cell (cell_lt (hm.prot a v hv))).trans (hm.prot a v hv))
          (fun B' e' => by rw [set_mu] at e'; cases e'; exact .inr ⟨Nat.le_refl _, by simp⟩) ?_ (fun B' e' a v hv hab => ?_)
        · rw [set_mu]
          refine ⟨rfl, rfl, h0, r1, h4, _, et, heap_alloc_new w.drew _, ?_, hrow.2⟩
          simp only [Array.size_append, List.size_toArray, size_zeroCells, k1, r3, List.length_nil]
          rw [Nat.zero_add, Nat.zero_add, ← Nat.add_mul]; exact Nat.mul_le_mul_right _ (by omega)
        · rw [set_mu] at e'; cases e'
          have := cell_lt (hm.prot a v hv)
          omega
      · have := ARep.arr (C := C.set id (.arr (g + xs.length) w.heap.size 0 cap' e.size)) (n := h.length) id (g + xs.length) 0 xs.length w.heap.size 0 cap' e.size 0 hidl (set_mu _ _ _) (by omega) (.inl (by omega))
        simpa using this

end
end Go.En
