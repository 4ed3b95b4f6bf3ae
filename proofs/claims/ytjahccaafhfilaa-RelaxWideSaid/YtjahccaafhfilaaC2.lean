/- The evaluation is so of operations, regions, code, functions: each premise is named in its theorem. -/
import Derived.Test.YtjahccaafhfilaaC1
import Derived.RangeFuncLeaves
import Derived.OrdersIn
import Derived.RangeFuncRecord
import Derived.Laws.Sem
import Derived.WideShapes
import GoSem.ClaimChange
set_option linter.unusedSimpArgs false
namespace Go.En
open Go.RowKit Go.MapKept

section
variable {P : Program} {T : Tab} {F : Base} {w w' : World} {C C' : Cx} {h rd : Hp} {n : Nat}

theorem map_set (hm : Mem F C h w) {id r : Nat} {es' : List (PV × PV)} {en en' : Array MapEntry} {clock clock' : Nat} (hid : id < h.length) (hμ : C.μ id = .map r)
    (hb : w.heap[r]? = some (.map en clock)) (hn : MRep C.M es' en'.toList) : Mem F C (h.set id (.map es')) { w with heap := w.heap.setIfInBounds r (.map en' clock') } := by
  obtain ⟨q1, q2⟩ := heap_set (w := w) (o' := .map en' clock') hb
  have hno : ∀ a v, C.M a = some v → a.block ≠ r := fun a v hv e => by
    obtain ⟨g, o, cap, sz, es0, h1, _⟩ := hm.sep id r hid (by rw [hμ]; rfl) a v hv e
    rw [hμ] at h1; cases h1
  refine hm.upd (C' := C) hid upd_same (fun _ _ => rfl) (Ext.refl _ _) rfl rfl rfl (by simp) (fun B _ hne => q2 B (fun e => hne (by rw [hμ, e]; rfl)))
    (fun a v hv => (World.cell?_of_block (q2 _ (hno a v hv))).trans (hm.prot a v hv)) (fun B e => .inl e) ?_ (fun B e a v hv hab => ?_)
  · rw [hμ]
    exact ⟨en', clock', q1, by simpa using hn.length, fun k e hk => hn.get k e (by simpa using hk)⟩
  · exact absurd (by rw [hμ] at e; cases e; exact hab) (hno a v hv)

theorem mapUpdate_sound (hT : T.Ok P) (hm : Mem F C h w) {t id : Nat} {k v : PV} {kd : TypeDesc} {i : TI} {es es' : List (PV × PV)} {mv kv vv : Value} (hd : mapDesc T t = some (kd, i)) (ho : h.at id = .map es)
    (h1 : keyOk kd k = true) (h2 : keysOk kd es = true) (h3 : mput k v es = some es') (hx : ARep C h.length (.map id) mv) (hk : ARep C h.length (.p k) kv) (hv : ARep C h.length (.p v) vv) :
    ∃ w', (Instr.mapUpdate t mv kv vv).run P w = .ok () w' ∧ Mem F C (h.set id (.map es')) w' := by
  obtain ⟨r, en, clock, rfl, hid, hμ, g4, g5⟩ := map_live hm ho hx
  obtain ⟨kt, et, g1, g2, g3⟩ := mapDesc_inv hT hd
  have hkr := p_inv hk
  have hik := keyOk_isKey h1 hkr
  rcases mput_rep h1 hkr (p_inv hv) 0 g5 h2 h3 with ⟨h4, h5⟩ | ⟨j, e, h4, h5, h6, h7⟩
  · refine ⟨_, ?_, map_set (en' := en.push ⟨kv, vv, clock⟩) (clock' := clock + 1) hm hid hμ g4 (by simpa using h5 clock)⟩
    simp [Instr.mapUpdate, run_underlying g1, MapKept.run_getObj_map g4, run_checkKey g2 hik, run_findKey g2 h4, run_setObj_map _ g4]
  · have hj : en[j]? = some e := by simpa using h5
    rw [Nat.zero_add] at h4
    refine ⟨_, ?_, map_set (en' := en.modify j fun e => { e with key := kv, val := vv }) (clock' := clock) hm hid hμ g4 ?_⟩
    · simp [Instr.mapUpdate, run_underlying g1, MapKept.run_getObj_map g4, run_checkKey g2 hik, run_findKey g2 h4, run_setObj_map _ g4, hj, h6, run_keyThatStays hik]
    · have : (en.modify j fun e => { e with key := kv, val := vv }).toList = en.toList.set j { e with key := kv, val := vv } := by
        apply List.ext_getElem?
        intro l
        simp only [Array.getElem?_toList, Array.getElem?_modify, List.getElem?_set]
        have hjl := (Array.getElem?_eq_some_iff.1 hj).1
        by_cases hl : j = l
        · subst hl
          have := (Array.getElem?_eq_some_iff.1 hj).2
          simp [hjl, this]
        · simp [hl]
      rw [this]; exact h7

theorem delete_sound (hT : T.Ok P) (hm : Mem F C h w) {t id ty : Nat} {k : PV} {kd : TypeDesc} {i : TI} {es es' : List (PV × PV)} {mv kv : Value} (hd : mapDesc T t = some (kd, i)) (ho : h.at id = .map es)
    (h1 : keyOk kd k = true) (h2 : keysOk kd es = true) (h3 : mdel k es = some es') (hx : ARep C h.length (.map id) mv) (hk : ARep C h.length (.p k) kv) (ts : Array TypeId) (hts : ts[0]? = some t) :
    ∃ w', (Builtin.delete_ ts ty #[mv, kv]).run P w = .ok (.tuple #[]) w' ∧ Mem F C (h.set id (.map es')) w' := by
  obtain ⟨r, en, clock, rfl, hid, hμ, g4, g5⟩ := map_live hm ho hx
  obtain ⟨kt, et, g1, g2, g3⟩ := mapDesc_inv hT hd
  have hkr := p_inv hk
  have hik := keyOk_isKey h1 hkr
  rcases mdel_rep h1 hkr 0 g5 h2 h3 with ⟨h4, h5⟩ | ⟨j, u, h4, h5, h6⟩
  · refine ⟨_, ?_, map_set (en' := en) (clock' := clock) hm hid hμ g4 h5⟩
    simp [Builtin.delete_, hts, run_underlying g1, MapKept.run_getObj_map g4, run_checkKey g2 hik, run_findKey g2 h4, run_setObj_map _ g4]
  · rw [Nat.zero_add] at h4
    refine ⟨_, ?_, map_set (en' := en.eraseIdxIfInBounds j) (clock' := clock) hm hid hμ g4 ?_⟩
    · simp [Builtin.delete_, hts, run_underlying g1, MapKept.run_getObj_map g4, run_checkKey g2 hik, run_findKey g2 h4, run_setObj_map _ g4]
    · have : (en.eraseIdxIfInBounds j).toList = en.toList.eraseIdx j := by
        unfold Array.eraseIdxIfInBounds
        rw [dif_pos (by simpa using h5)]; simp
      rw [this]; exact h6

/-- What an operation that writes comes to. -/
def Writes (P : Program) (a : Act) (o : Oper) (F : Base) (C : Cx) (h : Hp) (w : World) (h' : Hp) (x : AV) (tm : Tm) : Prop :=
  ∃ v w' C', ((execOp a.eval o).run P w = .ok (.value v) w' ∨ ((execOp a.eval o).run P w = .ok .skip w' ∧ v = undef)) ∧ Ext h.length C C' ∧ Mem F C' h' w' ∧ h'.length = h.length ∧ ARep C' h.length x v ∧ ∀ j, lateId tm o.op ≠ some j → C'.μ j = C.μ j

theorem evs_two {tm : Tm} {args : Array Operand} {p q : AV} (he : evs tm args.toList = [p, q]) : ∃ y z, args = #[y, z] ∧ uv (evo tm y) = p ∧ uv (evo tm z) = q := by
  obtain ⟨l⟩ := args
  cases l with
  | nil => simp [evs] at he
  | cons y l =>
    cases l with
    | nil => simp [evs] at he
    | cons z l =>
      cases l with
      | nil =>
        simp only [evs, List.map_cons, List.map_nil, List.cons.injEq, and_true] at he
        exact ⟨y, z, rfl, he⟩
      | cons _ _ => simp [evs] at he

theorem opW_sound (hT : T.Ok P) (hm : Mem F C h w) {tm : Tm} {a : Act} (ht : ∀ i, ARep C h.length (look tm i) (a.tmps.getD i Go.undef))
    {o : Oper} {r : Hp × AV} (h1 : opW T h tm o.op = some r) (hk : opK true tm o.op = true) : Writes P a o F C h w r.1 r.2 tm := by
  obtain ⟨dst, op, type, pos, after, guard⟩ := o
  cases op <;> simp only [opW] at h1 <;> try (cases h1; done)
  case store t x y =>
    obtain ⟨hk1, hk2⟩ := eks2 hk
    simp only [Option.map_eq_some_iff] at h1
    obtain ⟨h', h2, rfl⟩ := h1
    obtain ⟨w', h3, h4, h5⟩ := storeW_sound hT hm h2 (opd ht hk1) (opd ht hk2)
    exact ⟨undef, w', C, .inr ⟨by simp [execOp, h3], rfl⟩, Ext.refl _ _, h4, h5, .undef _, fun _ _ => rfl⟩
  case mapUpdate t m k v =>
    have hks : uk true (evo tm m) = true ∧ uk true (evo tm k) = true ∧ uk true (evo tm v) = true := by simpa [opK, eks, Op.operands] using hk
    have hmr := opd ht hks.1
    have hkr := opd ht hks.2.1
    have hvr := opd ht hks.2.2
    split at h1
    · rename_i id k' v' kd i e1 e2 e3 e4
      split at h1
      · rename_i es ho
        split at h1
        · rename_i hc
          obtain ⟨c1, c2, c3⟩ := hc
          simp only [Option.map_eq_some_iff] at h1
          obtain ⟨es', h2, rfl⟩ := h1
          rw [e1] at hmr; rw [e2] at hkr; rw [e3] at hvr
          obtain ⟨w', h3, h4⟩ := mapUpdate_sound hT hm e4 ho c1 c2 h2 hmr hkr hvr
          exact ⟨undef, w', C, .inr ⟨by simp [execOp, h3], rfl⟩, Ext.refl _ _, h4, by simp, .undef _, fun _ _ => rfl⟩
        · cases h1
      · cases h1
    · cases h1
  case call c =>
    obtain ⟨callee, args, argTypes⟩ := c
    cases callee <;> simp only at h1 <;> try (cases h1; done)
    rename_i b
    have hks : eks true tm args.toList = true := by simpa [opK] using hk
    cases b <;> simp only at h1 <;> try (cases h1; done)
    · -- append
      split at h1
      · rename_i id g off len x t t' e1 e2
        have ha : ∃ y z, args = #[y, z] ∧ uv (evo tm y) = .arr id g off len ∧ uv (evo tm z) = x := evs_two e1
        have hb : argTypes = #[t, t'] := by
          obtain ⟨l⟩ := argTypes
          simpa using e2
        obtain ⟨y, z, rfl, e3, rfl⟩ := ha
        subst hb
        obtain ⟨hk1, hk2⟩ := eks2 (show eks true tm [y, z] = true from hks)
        have hy := opd ht hk1
        have hz := opd ht hk2
        rw [e3] at hy
        split at h1
        · rename_i g' sz sh es e q e' xs ho he he' hp
          split at h1
          · rename_i hc
            obtain ⟨rfl, c1, c2, c3, c4, c5⟩ := hc
            obtain ⟨u, w', C', h2, h3, h4, h5, h6, h7⟩ := append_sound (ty := type) hT hm ho he he' hp hy hz c1 c2 c3 c4 c5 h1
            exact ⟨u, w', C', .inl (by simp [execOp, resolve, invoke, builtin, h2]), h3, h4, h5, h6, fun j hj => h7 j (fun e => hj (by subst e; simp [lateId, evs, e3]))⟩
          · cases h1
        · cases h1
      · cases h1
    · -- delete
      split at h1
      · rename_i id k t l e1 e2
        have ha : ∃ y z, args = #[y, z] ∧ uv (evo tm y) = .map id ∧ uv (evo tm z) = .p k := evs_two e1
        have hb : argTypes[0]? = some t := by
          obtain ⟨l⟩ := argTypes
          simp only at e2
          subst e2
          rfl
        obtain ⟨y, z, rfl, e3, e4⟩ := ha
        obtain ⟨hk1, hk2⟩ := eks2 (show eks true tm [y, z] = true from hks)
        have hy := opd ht hk1
        have hz := opd ht hk2
        rw [e3] at hy; rw [e4] at hz
        split at h1
        · rename_i es kd i ho hd
          split at h1
          · rename_i hc
            simp only [Option.map_eq_some_iff] at h1
            obtain ⟨es', h2, rfl⟩ := h1
            obtain ⟨w', h3, h4⟩ := delete_sound (ty := type) hT hm hd ho hc.1 hc.2 h2 hy hz argTypes hb
            exact ⟨.tuple #[], w', C, .inl (by simp [execOp, resolve, invoke, builtin, h3]), Ext.refl _ _, h4, by simp, .tup _ _ rfl (by simp), fun _ _ => rfl⟩
          · cases h1
        · cases h1
      · cases h1

end
end Go.En
set_option linter.unusedSimpArgs false
namespace Go.En
open Go.RowKit

section
variable {P : Program} {T : Tab} {F : Base} {w w' : World} {C C' : Cx} {h rd : Hp} {n : Nat} {tm tm' : Tm}

theorem evs_congr {l : List Operand} (hx : ∀ x ∈ l, evo tm x = evo tm' x) : evs tm l = evs tm' l := by
  simp only [evs]
  exact List.map_congr_left fun x hm => by rw [hx x hm]
theorem eks_congr {g : Bool} {l : List Operand} (hx : ∀ x ∈ l, evo tm x = evo tm' x) : eks g tm l = eks g tm' l := by
  induction l with
  | nil => rfl
  | cons y l ih =>
    have h1 := hx y (by simp)
    have h2 := ih (fun x hm => hx x (by simp [hm]))
    simp only [eks, List.all_cons] at h2 ⊢
    rw [h1, h2]
theorem parts_congr {l : List (Nat × Operand)} (hx : ∀ x ∈ l.map (·.2), evo tm x = evo tm' x) : (l.map fun (i, x) => (i, uv (evo tm x))) = l.map fun (i, x) => (i, uv (evo tm' x)) :=
  List.map_congr_left fun p hm => by
    have := hx p.2 (List.mem_map_of_mem hm)
    simp [this]

theorem opV_congr {op : Op} (hx : ∀ x ∈ op.operands.toList, evo tm x = evo tm' x) : opV T h tm op = opV T h tm' op := by
  cases op <;> simp only [opV] <;> try rfl
  case move x => rw [hx x (by simp [Op.operands])]
  case assign x => rw [hx x (by simp [Op.operands])]
  case pick c a b => rw [hx c (by simp [Op.operands]), hx a (by simp [Op.operands]), hx b (by simp [Op.operands])]
  case load t x => rw [hx x (by simp [Op.operands])]
  case nilCheck x => rw [hx x (by simp [Op.operands])]
  case binOp op t x y yt => rw [hx x (by simp [Op.operands]), hx y (by simp [Op.operands])]
  case unOp op t x => rw [hx x (by simp [Op.operands])]
  case convert s d x => rw [hx x (by simp [Op.operands])]
  case fieldAddr s x f => rw [hx x (by simp [Op.operands])]
  case field s x f => rw [hx x (by simp [Op.operands])]
  case indexAddr t x i => rw [hx x (by simp [Op.operands]), hx i (by simp [Op.operands])]
  case index t x i => rw [hx x (by simp [Op.operands]), hx i (by simp [Op.operands])]
  case lookup t x i c => rw [hx x (by simp [Op.operands]), hx i (by simp [Op.operands])]
  case extract x i => rw [hx x (by simp [Op.operands])]
  case makeFunc fn first caps =>
    cases fn <;> try rfl
    simp only
    rw [evs_congr (l := caps.toList) (fun x hm => hx x (by simp only [Op.operands, Array.toList_append, List.mem_append]; exact .inr hm))]
  case build t parts =>
    rw [parts_congr (l := parts.toList) (fun x hm => hx x (by simpa [Op.operands] using hm))]
  case slice t x lo hi mx =>
    cases mx <;> try rfl
    simp only
    rw [hx x (by simp [Op.operands])]
    have e1 : lo.map (fun x => uv (evo tm x)) = lo.map (fun x => uv (evo tm' x)) := by
      cases lo with
      | none => rfl
      | some y => simp only [Option.map_some]; rw [hx y (by simp [Op.operands])]
    have e2 : hi.map (fun x => uv (evo tm x)) = hi.map (fun x => uv (evo tm' x)) := by
      cases hi with
      | none => rfl
      | some y => simp only [Option.map_some]; rw [hx y (by simp [Op.operands])]
    rw [e1, e2]
  case call c =>
    have e : evs tm c.args.toList = evs tm' c.args.toList := evs_congr fun x hm => hx x (by simp only [Op.operands, Call.operands, Array.toList_append, List.mem_append]; exact .inr hm)
    rw [e]

theorem opK_congr {g : Bool} {op : Op} (hx : ∀ x ∈ op.operands.toList, evo tm x = evo tm' x) : opK g tm op = opK g tm' op := by
  have key := eks_congr (g := g) hx
  cases op <;> try exact key
  case pick c a b => simp only [opK]; rw [hx c (by simp [Op.operands])]
  case makeFunc fn first caps => exact eks_congr (fun x hm => hx x (by simp only [Op.operands, Array.toList_append, List.mem_append]; exact .inr hm))
  case call c =>
    refine eks_congr (fun x hm => hx x ?_)
    obtain ⟨callee, args, ats⟩ := c
    cases callee <;> simp [Op.operands, Call.operands] at hm ⊢ <;> first | exact hm | exact .inr hm

theorem opA_congr {own : Nat} {op : Op} (hx : ∀ x ∈ op.operands.toList, evo tm x = evo tm' x) : opA T own h tm op = opA T own h tm' op := by
  cases op <;> simp only [opA] <;> try rfl
  case box t x => simp only [hx x (by simp [Op.operands])]
  case makeMap t res => cases res <;> rfl
  case build t parts =>
    rw [parts_congr (l := parts.toList) (fun x hm => hx x (by simpa [Op.operands] using hm))]
  case buildSlice t len parts =>
    rw [parts_congr (l := parts.toList) (fun x hm => hx x (by simpa [Op.operands] using hm))]
  case makeSlice t l c => rw [hx l (by simp [Op.operands]), hx c (by simp [Op.operands])]
  case call c =>
    obtain ⟨callee, args, ats⟩ := c
    cases callee <;> try rfl
    rename_i b
    cases b <;> try rfl
    simp only
    split
    · rename_i s x t t' e1 e2
      have hm : ∀ y ∈ [s, x], evo tm y = evo tm' y := fun y hy => hx y (by
        simp only [Op.operands, Call.operands, Array.toList_append, List.mem_append]
        exact .inr (by rw [e1]; exact hy))
      rw [hm s (by simp), hm x (by simp)]
    · rfl

theorem calleeOf_congr {x : Operand} (hx : evo tm x = evo tm' x) : calleeOf tm x = calleeOf tm' x := by unfold calleeOf; rw [hx]
theorem yieldOf_congr {x : Operand} (hx : evo tm x = evo tm' x) : yieldOf tm x = yieldOf tm' x := by unfold yieldOf; rw [hx]

-- ---------------------------------------------------------------- variables
theorem look_put (t : Tm) (d i : Nat) (v : AV) : look (put t d v) i = if d = i then v else look t i := by
  induction t with
  | nil => simp [put, look]
  | cons p t ih =>
    obtain ⟨k, u⟩ := p
    simp only [put]
    by_cases h1 : k = d
    · subst h1; simp only [if_true, look]
      by_cases h2 : k = i <;> simp [h2]
    · simp only [h1, if_false, look]
      by_cases h2 : k = i
      · subst h2; simp [Ne.symm h1]
      · simp only [h2, if_false, ih]

theorem look_putO (t : Tm) (d : Option Nat) (i : Nat) (v : AV) : look (putO t d v) i = if d = some i then v else look t i := by
  cases d with
  | none => simp [putO]
  | some d => simp [putO, look_put]

theorem put_getD (a : Act) (d : Option Nat) (v : Value) (i : Nat) (hd : ∀ j, d = some j → j < a.tmps.size) : (a.put d v).tmps.getD i Go.undef = if d = some i then v else a.tmps.getD i Go.undef := by
  cases d with
  | none => simp [Act.put]
  | some d =>
    have := hd d rfl
    simp only [Act.put, Array.getD_eq_getD_getElem?, Array.getElem?_setIfInBounds, Option.some.injEq]
    by_cases h1 : d = i
    · subst h1; simp [this]
    · simp [h1]

theorem put_size (a : Act) (d : Option Nat) (v : Value) : (a.put d v).tmps.size = a.tmps.size := by cases d <;> simp [Act.put]
theorem put_defers (a : Act) (d : Option Nat) (v : Value) : (a.put d v).defers = a.defers := by cases d <;> rfl

-- ---------------------------------------------------------------- one operation of the machine
/-- A frame of whatever function; in a round of the loop l, or in none. -/
def FW (r : Option Nat) : Fence := { Fence.wide with round := r }

theorem FW_fn (r : Option Nat) (f : FuncId) : (FW r).fn f := trivial
theorem FW_depth (r : Option Nat) : (FW r).depth = none := rfl
theorem callsIn_FW {r : Option Nat} {n : Nat} {f : FuncId} {args : Array Value} {R : Ending → World → Prop} : CallsIn (FW r) n P f args w R ↔ Calls P f args w R := callsIn_wide (n := n)

/-- What the machine makes of an operation, and what comes behind it. -/
def opStep (r : Option Nat) (P : Program) (ops : Array Oper) (Q : Exit → Act → World → Prop) (K : Act → World → Prop) (o : Oper) (a : Act) (w : World) : Prop :=
  if Region.wanted o (yielded ops a.tmps) then o.wpIn (FW r) 0 P a w K Q else (∀ f, o.about P w a.eval = some f → (FW r).fn f) ∧ K (a.put o.dst Go.undef) w

def Does (r : Option Nat) (P : Program) (ops : Array Oper) (o : Oper) (a : Act) (w : World) (R : Value → World → Prop) : Prop :=
  ∀ (Q : Exit → Act → World → Prop) (K : Act → World → Prop), (∀ u w', R u w' → K (a.put o.dst u) w') → opStep r P ops Q K o a w

section
variable {ops : Array Oper} {o : Oper} {a : Act} {R R' : Value → World → Prop} {r : Option Nat}

theorem Does.mono (hd : Does r P ops o a w R) (hr : ∀ u w', R u w' → R' u w') : Does r P ops o a w R' := fun Q K hk => hd Q K fun u w' hu => hk u w' (hr u w' hu)

def noDefer (o : Oper) : Prop := ∀ c, o.op ≠ .defer c

theorem semAt_plain (hn : noDefer o) (ρ : Operand → Value) : o.semAt r ρ = execOp ρ o := by
  exact Oper.semAt_eq r ρ o hn

theorem does_value {v : Value} (hn : noDefer o) (hw : Region.wanted o (yielded ops a.tmps) = true) (he : (execOp a.eval o).run P w = .ok (.value v) w') (hr : R v w') : Does r P ops o a w R := by
  intro Q K hk
  unfold opStep
  rw [if_pos hw]
  refine ⟨fun f _ => FW_fn r f, ?_⟩
  show o.uponIn (FW r) 0 P a K Q ((o.semAt r a.eval).run P w)
  rw [semAt_plain hn, he]
  exact hk v w' hr

theorem does_skip (hn : noDefer o) (hw : Region.wanted o (yielded ops a.tmps) = true) (he : (execOp a.eval o).run P w = .ok .skip w') (hr : R Go.undef w') : Does r P ops o a w R := by
  intro Q K hk
  unfold opStep
  rw [if_pos hw]
  refine ⟨fun f _ => FW_fn r f, ?_⟩
  show o.uponIn (FW r) 0 P a K Q ((o.semAt r a.eval).run P w)
  rw [semAt_plain hn, he]
  exact hk _ w' hr

theorem does_not (hw : Region.wanted o (yielded ops a.tmps) = false) (hr : R Go.undef w) : Does r P ops o a w R := by
  intro Q K hk
  unfold opStep
  rw [hw]
  simp only [Bool.false_eq_true, if_false]
  exact ⟨fun f _ => FW_fn r f, hk _ w hr⟩

theorem does_enter {f : FuncId} {args : Array Value} (hn : noDefer o) (hw : Region.wanted o (yielded ops a.tmps) = true) (he : (execOp a.eval o).run P w = .ok (.enter f args) w')
    (hc : Calls P f args w' fun | .returned v, w'' => R v w'' | _, _ => False) : Does r P ops o a w R := by
  intro Q K hk
  unfold opStep
  rw [if_pos hw]
  refine ⟨fun f _ => FW_fn r f, ?_⟩
  show o.uponIn (FW r) 0 P a K Q ((o.semAt r a.eval).run P w)
  rw [semAt_plain hn, he]
  rw [Oper.uponIn_enter]
  refine ⟨(fun h => by cases h), callsIn_FW.2 (hc.mono fun e w'' h1 => ?_)⟩
  cases e with
  | returned v => exact hk v w'' h1
  | panicked _ => exact h1.elim
  | outgrown => exact h1.elim

theorem does_round {l f : Nat} {tmps : Array Value} {assign body : Code} (hn : noDefer o) (hw : Region.wanted o (yielded ops a.tmps) = true) (he : (execOp a.eval o).run P w = .ok (.round l f tmps assign body) w')
    (hc : RoundIn Fence.wide 0 P l f tmps assign body w' fun | .returned v, w'' => R v w'' | _, _ => False) : Does r P ops o a w R := by
  intro Q K hk
  unfold opStep
  rw [if_pos hw]
  refine ⟨fun f _ => FW_fn r f, ?_⟩
  show o.uponIn (FW r) 0 P a K Q ((o.semAt r a.eval).run P w)
  rw [semAt_plain hn, he]
  rw [Oper.uponIn_round]
  refine ⟨(fun h => by cases h), ?_⟩
  have h2 : RoundIn Fence.wide 0 P l f tmps assign body w' fun
      | .returned v, w'' => K (a.put o.dst v) w''
      | .panicked chain, w'' => Q (.panic chain) a w''
      | .outgrown, _ => LetsOut Q := hc.mono fun e w'' h1 => by
    cases e with
    | returned v => exact hk v w'' h1
    | panicked _ => exact h1.elim
    | outgrown => exact h1.elim
  exact h2

/-- The guard of an operation. -/
theorem guard_wanted {l : List Oper} {g : Option Bool} (hg : guardOf l tm o.guard = some g) (hl : ops.toList = l) (ht : ∀ i ∈ guardSlot l o, ARep C n (look tm i) (a.tmps.getD i Go.undef)) :
    Region.wanted o (yielded ops a.tmps) = g.getD true := by
  unfold guardOf at hg
  unfold Region.wanted
  split at hg
  · rename_i e
    cases hg
    simp [e]
  · rename_i j want e
    simp only [e]
    cases hd : (l[j]?).bind (·.dst) with
    | none => rw [hd] at hg; cases hg
    | some d =>
      rw [hd] at hg
      simp only at hg
      have h1 := ht d (by simp [guardSlot, e, hd])
      have hd' : (ops[j]?).bind (·.dst) = some d := by rw [← hd, ← hl]; simp
      split at hg
      · rename_i b e2
        cases hg
        rw [e2] at h1
        have h2 := bool_inv h1
        have h3 : a.tmps[d]? = some (.bool b) := by
          rw [Array.getD_eq_getD_getElem?] at h2
          cases h4 : a.tmps[d]? with
          | none => rw [h4] at h2; simp [Go.undef] at h2
          | some v => rw [h4] at h2; simpa using h2
        unfold yielded
        rw [hd']
        simp only [Option.bind_some, h3]
        cases b <;> cases want <;> rfl
      · rename_i c b e2
        cases hg
        rw [e2] at h1
        cases c with
        | true =>
          cases h1 with
          | gdT _ _ h1 =>
            have h2 := bool_inv h1
            have h3 : a.tmps[d]? = some (.bool b) := by
              rw [Array.getD_eq_getD_getElem?] at h2
              cases h4 : a.tmps[d]? with
              | none => rw [h4] at h2; simp [Go.undef] at h2
              | some v => rw [h4] at h2; simpa using h2
            unfold yielded
            rw [hd']
            simp only [Option.bind_some, h3]
            cases b <;> cases want <;> rfl
        | false =>
          have h2 : a.tmps.getD d Go.undef = Go.undef := by
            generalize a.tmps.getD d Go.undef = v at h1
            cases h1; rfl
          have h3 : yielded ops a.tmps j = none := by
            unfold yielded
            rw [hd']
            simp only [Option.bind_some]
            rw [Array.getD_eq_getD_getElem?] at h2
            cases h4 : a.tmps[d]? with
            | none => rfl
            | some v =>
              rw [h4] at h2
              simp only [Option.getD_some] at h2
              rw [h2]
              rfl
          rw [h3]
          simp
      · cases hg
end

end
end Go.En
set_option linter.unusedSimpArgs false
namespace Go.En
open Go.RowKit

section
variable {P : Program} {T : Tab} {F : Base} {w w' : World} {C C' : Cx} {h rd : Hp} {n : Nat} {tm tm' : Tm}

theorem shareFrom_get (ids : List Nat) : ∀ (h : Hp) (i k : Nat), (shareFrom ids i h)[k]? = (h[k]?).map fun o => if ids.contains (i + k) = true then markS o else o
  | [], i, k => by simp [shareFrom]
  | o :: r, i, k => by
    cases k with
    | zero => simp [shareFrom]
    | succ k =>
      simp only [shareFrom, List.getElem?_cons_succ, shareFrom_get ids r (i + 1) k]
      rw [show i + 1 + k = i + (k + 1) from by omega]

theorem shareFrom_length (ids : List Nat) : ∀ (h : Hp) (i : Nat), (shareFrom ids i h).length = h.length
  | [], i => rfl
  | o :: r, i => by simp [shareFrom, shareFrom_length ids r (i + 1)]

theorem share_length (ids : List Nat) : (share h ids).length = h.length := by
  unfold share
  split
  · rfl
  · exact shareFrom_length _ _ _

theorem share_at (ids : List Nat) (id : Nat) : (share h ids).at id = if id ∈ ids then markS (h.at id) else h.at id := by
  unfold share
  split
  · simp
  · unfold Hp.at
    rw [shareFrom_get]
    cases h[id]? with
    | none => simp [markS]
    | some o => simp

theorem share_nil : share h [] = h := rfl

theorem markS_rep {c : Cn} {o : Obj} (hr : ORep C n w c o) : ORep C n w c (markS o) := by
  cases o with
  | arr g sz sh es => cases c <;> first | exact hr | exact hr.elim
  | _ => exact hr

theorem markS_dead {o : Obj} (hd : markS o = .dead) : o = .dead := by cases o <;> simp [markS] at hd ⊢

/-- The same, with other memory that nobody writes. -/
def Cx.withM (C : Cx) (M : Addr → Option Value) : Cx := { C with M := M }

/-- The cells of rows that are shown to others. -/
def rowCell (C : Cx) (h : Hp) (ids : List Nat) (a : Addr) : Prop :=
  ∃ id g B o cap sz sh es, id ∈ ids ∧ id < h.length ∧ C.μ id = .arr g B o cap sz ∧ h.at id = .arr g sz sh es ∧ a.block = B ∧ a.off < o + es.length * sz

open Classical in
/-- Memory that nobody writes, when rows are shown to others. -/
noncomputable def shown (C : Cx) (h : Hp) (ids : List Nat) (w : World) (a : Addr) : Option Value :=
  match C.M a with
  | some v => some v
  | none => if rowCell C h ids a then w.cell? a else none

theorem shown_old {ids : List Nat} {a : Addr} {v : Value} (e : C.M a = some v) : shown C h ids w a = some v := by simp [shown, e]
theorem shown_inv {ids : List Nat} {a : Addr} {v : Value} (e : shown C h ids w a = some v) : C.M a = some v ∨ (rowCell C h ids a ∧ w.cell? a = some v) := by
  unfold shown at e
  split at e
  · rename_i u hu; cases e; exact .inl hu
  · split at e
    · exact .inr ⟨by assumption, e⟩
    · cases e

theorem shown_ext (ids : List Nat) (n : Nat) : Ext n C (C.withM (shown C h ids w)) := ⟨fun _ _ e => shown_old e, fun _ _ e => e, rfl, fun _ _ => .inl rfl⟩

theorem shown_prot (hm : Mem F C h w) {ids : List Nat} {a : Addr} {v : Value} (e : shown C h ids w a = some v) : w.cell? a = some v := by
  rcases shown_inv e with e | ⟨_, e⟩
  · exact hm.prot a v e
  · exact e

theorem Mem.share (hm : Mem F C h w) (ids : List Nat) : Mem F (C.withM (shown C h ids w)) (share h ids) w := by
  have hx := shown_ext (C := C) (h := h) (w := w) ids h.length
  refine ⟨fun id hid => ?_, fun a v e => shown_prot hm e, fun a v e => ?_, fun id B hid e a v hv hab => ?_, fun i j B hi hj => ?_, fun id B hid e => ?_, hm.kept, fun B o e id hid => ?_, fun id r b hid => ?_, hm.fr⟩
  · rw [share_length] at hid ⊢
    rw [share_at]
    have h1 := (hm.objs id hid).mono hx (Nat.le_refl _) (fun _ _ => rfl)
    split
    · exact markS_rep h1
    · exact h1
  · rcases shown_inv e with e | ⟨⟨id, g, B, o, cap, sz, sh, es, h1, h2, h3, h4, h5, h6⟩, _⟩
    · exact hm.src a v e
    · have := (hm.lt id B h2 (by rw [h3]; rfl)).2
      rw [h5]
      rcases this with h7 | h7
      · exact .inr (.inl h7)
      · exact .inl h7
  · rw [share_length] at hid
    rw [share_at]
    rcases shown_inv hv with hv | ⟨⟨id', g, B', o, cap, sz, sh, es, h1, h2, h3, h4, h5, h6⟩, _⟩
    · obtain ⟨g, o, cap, sz, es, h1, h2, h3⟩ := hm.sep id B hid e a v hv hab
      refine ⟨g, o, cap, sz, es, h1, ?_, h3⟩
      rw [h2]
      split <;> rfl
    · have : id' = id := hm.inj id' id B h2 hid (by rw [h3, ← h5, hab]; rfl) e
      subst this
      rw [hab] at h5; subst h5
      exact ⟨g, o, cap, sz, es, h3, by rw [if_pos h1, h4]; rfl, h6⟩
  · rw [share_length] at hi hj
    exact hm.inj i j B hi hj
  · rw [share_length] at hid
    exact hm.lt id B hid e
  · rw [share_length] at hid
    exact hm.ksep B o e id hid
  · rw [share_length] at hid
    exact hm.bnd id r b hid

/-- Marked, though nothing was shown. -/
theorem Mem.mark (hm : Mem F C h w) (ids : List Nat) : Mem F C (En.share h ids) w := by
  refine ⟨fun id hid => ?_, hm.prot, hm.src, fun id B hid e a v hv hab => ?_, fun i j B hi hj => ?_, fun id B hid e => ?_, hm.kept, fun B o e id hid => ?_, fun id r b hid => ?_, hm.fr⟩
  · rw [share_length] at hid ⊢
    rw [share_at]
    split
    · exact markS_rep (hm.objs id hid)
    · exact hm.objs id hid
  · rw [share_length] at hid
    rw [share_at]
    obtain ⟨g, o, cap, sz, es, h1, h2, h3⟩ := hm.sep id B hid e a v hv hab
    refine ⟨g, o, cap, sz, es, h1, ?_, h3⟩
    rw [h2]
    split <;> rfl
  · rw [share_length] at hi hj
    exact hm.inj i j B hi hj
  · rw [share_length] at hid
    exact hm.lt id B hid e
  · rw [share_length] at hid
    exact hm.ksep B o e id hid
  · rw [share_length] at hid
    exact hm.bnd id r b hid

-- ---------------------------------------------------------------- arguments as they are shown
theorem flat_sub {es : List PV} {sz off len : Nat} (hu : ∀ x ∈ es, x.cells.length = sz) {k : Nat} (hk : k < (flat ((es.drop off).take len)).length) (hle : off + len ≤ es.length) :
    off * sz + k < (flat es).length ∧ (flat ((es.drop off).take len)).getD k .nils = (flat es).getD (off * sz + k) .nils := by
  have hu' : ∀ y ∈ (es.drop off).take len, y.cells.length = sz := fun y hy => hu y (List.mem_of_mem_drop (List.mem_of_mem_take hy))
  refine flat_all (Q := fun x k => off * sz + k < (flat es).length ∧ x = (flat es).getD (off * sz + k) .nils) hu' (fun i hi j hj => ?_) k hk
  have hi' : i < len := by simp at hi; omega
  have e : off * sz + (i * sz + j) = (off + i) * sz + j := by rw [Nat.add_mul]; omega
  rw [e]
  have hlt := idx_lt (m := es.length) (i := off + i) (sz := sz) (j := j) (by omega) hj
  refine ⟨by rw [flat_length hu]; exact hlt, ?_⟩
  rw [flat_get hu (by omega) hj]
  congr 2
  simp [List.getD_eq_getElem?_getD, hi', List.getElem?_drop]

theorem snap1_rep (hm : Mem F C h w) (hrd : ∀ id, rd.at id ≠ .dead → h.at id = rd.at id) {ids : List Nat} {x : AV} {v : Value} (hr : ARep C h.length x v) (hi : ∀ id g off len, x = .arr id g off len → id ∈ ids) :
    ARep (C.withM (shown C h ids w)) h.length (snap1 rd x) v := by
  have hx := shown_ext (C := C) (h := h) (w := w) ids h.length
  unfold snap1
  split
  · rename_i id g off len
    split
    · rename_i l hp
      have hin := hi _ _ _ _ rfl
      unfold pic at hp
      simp only at hp
      split at hp
      · rename_i g' sz sh es ho
        split at hp
        · rename_i hc
          obtain ⟨rfl, hle⟩ := hc
          cases hp
          have ho' : h.at id = .arr g sz sh es := by rw [hrd id (by rw [ho]; simp), ho]
          have hlen : ((es.drop off).take len).length = len := by simp; omega
          rcases arr_live hm ho' rfl hr with ⟨B, o, cap, a, hidl, hμ, hcap, ha, rfl, _, hes, c, et0, hB, hfit, hrow⟩ | ⟨hidl, hμ, rfl, rfl, rfl, rfl⟩
          · refine .p _ _ ?_
            have hul : ∀ x ∈ (es.drop off).take len, x.cells.length = sz := fun y hy => hrow.1 y (List.mem_of_mem_drop (List.mem_of_mem_take hy))
            have := PRep.sl (M := shown C h ids w) ((es.drop off).take len) B a (cap - off) sz (fun k => c.getD (a + k) Go.undef) (by rw [hlen]; omega) hul
            rw [hlen] at this
            have hpos : ∀ k, k < (flat ((es.drop off).take len)).length → a = o + off * sz := fun k hk => by
              rcases ha with ha | ha
              · exact ha
              · rw [flat_length hul, hlen] at hk
                have : len = 0 := by omega
                subst this; simp at hk
            have hes2 : es.length * sz ≤ cap * sz := Nat.mul_le_mul_right _ hes
            refine this (fun k hk => ?_) (fun k hk => ?_)
            · obtain ⟨h1, h2⟩ := flat_sub (sz := sz) hrow.1 hk hle
              have h3 := hrow.2 _ h1
              have e := hpos k hk
              subst e
              rw [show o + off * sz + k = o + (off * sz + k) from by omega]
              refine ⟨?_, h3.2⟩
              rw [flat_length hrow.1] at h1
              have hcell : w.cell? ⟨B, o + (off * sz + k), none⟩ = some (c.getD (o + (off * sz + k)) Go.undef) := by
                rw [cell_of_block hB]; exact getD_some (by omega)
              unfold shown
              split
              · rename_i u hu
                have := hm.prot _ _ hu
                rw [hcell] at this; exact this.symm
              · rw [if_pos ⟨id, g, B, o, cap, sz, sh, es, hin, hidl, hμ, ho', rfl, by show o + (off * sz + k) < _; omega⟩]
                exact hcell
            · obtain ⟨h1, h2⟩ := flat_sub (sz := sz) hrow.1 hk hle
              have h3 := hrow.2 _ h1
              have e := hpos k hk
              subst e
              rw [h2, show o + off * sz + k = o + (off * sz + k) from by omega]
              exact h3.1.mono (fun _ _ e => shown_old e)
          · exact .p _ _ .sl0
        · cases hp
      · cases hp
    · exact .undef _
  · exact hr.mono hx (Nat.le_refl _)

theorem snap_rep (hm : Mem F C h w) (hrd : ∀ id, rd.at id ≠ .dead → h.at id = rd.at id) {ids : List Nat} {x : AV} {v : Value} (hr : ARep C h.length x v) (hi : ∀ id ∈ arrIds x, id ∈ ids) :
    ARep (C.withM (shown C h ids w)) h.length (snap rd x) v := by
  unfold snap
  split
  · rename_i cs
    cases hr with
    | agg _ vs h1 h2 =>
      refine .agg _ _ (by simpa using h1) (fun k hk => ?_)
      have hk' : k < cs.length := by simpa using hk
      have h3 := snap1_rep hm hrd (ids := ids) (h2 k hk') (fun id g off len e => hi id (by
        simp only [arrIds, List.mem_flatMap]
        refine ⟨cs.getD k .undef, ?_, by rw [e]; simp⟩
        rw [List.getD_eq_getElem?_getD, List.getElem?_eq_getElem hk']
        exact List.getElem_mem _))
      simpa [List.getD_eq_getElem?_getD, hk'] using h3
  · refine snap1_rep hm hrd hr (fun id g off len e => hi id ?_)
    subst e
    simp [arrIds]

end
end Go.En
set_option linter.unusedSimpArgs false
namespace Go.En
open Go.RowKit

/-- The blocks of a heap. -/
def ownB (C : Cx) (h : Hp) (B : Nat) : Prop := ∃ id, id < h.length ∧ (C.μ id).blk = some B

/-- What nobody writes, of the blocks that are newer than w. -/
def newM (w : World) (M : Addr → Option Value) (a : Addr) : Option Value := if w.heap.size ≤ a.block then M a else none

/-- What a function comes to, on arguments and a heap. -/
structure CallOk (L : LoopTab) (fresh : Nat → Bool) (P : Program) (f : Nat) (as : List AV) (h : Hp) (r : AV × Hp) : Prop where
  fn : ∃ fn, P.funcs[f]? = some fn ∧ fn.body.isNone = false ∧ (fn.name == "runtime.NumGoroutine") = false
  len : h.length ≤ r.2.length
  calls : ∀ (w : World) (C : Cx) (vs : Array Value), C.L = L → Mem ⟨w, ownB C h, C.M⟩ C h w → vs.size = as.length → (∀ k, k < as.length → ARep C h.length (as.getD k .undef) (vs.getD k Go.undef)) →
    Calls P f vs w fun
      | .returned u, w' => ∃ C', Ext h.length C C' ∧ C'.K = C.K ∧ Mem ⟨w, ownB C h, C.M⟩ C' r.2 w' ∧ ARep C' r.2.length r.1 u ∧ (fresh f = true → ownB C h = (fun _ => False) → ARep (C'.withM (newM w C'.M)) r.2.length r.1 u)
      | _, _ => False

section
variable {P : Program} {T : Tab} {F : Base} {w w' : World} {C C' : Cx} {h rd : Hp} {n : Nat} {tm tm' : Tm}

theorem toPs_some : ∀ {cs : List AV}, (toPs cs).isSome = true → ∀ x ∈ cs, ∃ p, x = .p p
  | [], _, x, hx => by cases hx
  | .p y :: cs, h, x, hx => by
    simp only [toPs, Option.isSome_map] at h
    cases hx with
    | head => exact ⟨y, rfl⟩
    | tail _ hx => exact toPs_some h x hx
  | .agg _ :: _, h, _, _ => by simp [toPs] at h
  | .ref _ _ :: _, h, _, _ => by simp [toPs] at h
  | .arr _ _ _ _ :: _, h, _, _ => by simp [toPs] at h
  | .elt _ _ _ _ :: _, h, _, _ => by simp [toPs] at h
  | .fn _ _ :: _, h, _, _ => by simp [toPs] at h
  | .map _ :: _, h, _, _ => by simp [toPs] at h
  | .yl _ :: _, h, _, _ => by simp [toPs] at h
  | .tup _ :: _, h, _, _ => by simp [toPs] at h
  | .gd _ _ :: _, h, _, _ => by simp [toPs] at h
  | .undef :: _, h, _, _ => by simp [toPs] at h

theorem pure_rep {C C' : Cx} (hM : C'.M = C.M) {n n' : Nat} {b : AV} {v : Value} (hp : ∀ x ∈ b.cells, ∃ p, x = .p p) (hr : ARep C n b v) : ARep C' n' b v := by
  cases b with
  | p x => exact .p _ _ (by rw [hM]; exact p_inv hr)
  | agg cs =>
    cases hr with
    | agg _ vs h1 h2 =>
      refine .agg _ _ h1 (fun k hk => ?_)
      have h3 := h2 k hk
      obtain ⟨p, hp⟩ := hp (cs.getD k .undef) (by
        rw [List.getD_eq_getElem?_getD, List.getElem?_eq_getElem hk]; exact List.getElem_mem _)
      rw [hp] at h3 ⊢
      exact .p _ _ (by rw [hM]; exact p_inv h3)
  | _ => obtain ⟨p, hp⟩ := hp _ (by simp [AV.cells]; rfl); cases hp

/-- A value that names no block. -/
theorem zero_rep' {C C' : Cx} (hM : ∀ a v, C.M a = some v → C'.M a = some v) {n' : Nat} {x : AV} {v : Value} (hr : ARep C 0 x v) : ARep C' n' x v := by
  induction hr with
  | p x v h => exact .p _ _ (h.mono hM)
  | agg cs vs h1 _ ih => exact .agg cs vs h1 ih
  | ref _ _ _ h1 => omega
  | arr _ _ _ _ _ _ _ _ _ h1 => omega
  | arrN _ _ h1 => omega
  | arrS _ _ _ _ _ _ _ h1 => omega
  | elt _ _ _ _ _ _ _ _ h1 => omega
  | eltS _ _ _ _ _ _ _ h1 => omega
  | fn f cs vs h1 _ ih => exact .fn f cs vs h1 ih
  | map _ _ h1 => omega
  | yl _ _ _ h1 => omega
  | tup vs xs h1 _ ih => exact .tup vs xs h1 ih
  | gdT v x _ ih => exact .gdT v x ih
  | gdF v => exact .gdF v
  | undef v => exact .undef v

theorem scalar1_rep {C C' : Cx} {n n' : Nat} {x : AV} {v : Value} (hs : scalar1 x = true) (hr : ARep C n x v) : ARep C' n' x v := by
  unfold scalar1 at hs
  split at hs
  · rw [int_inv hr]; exact mkint _ _
  · rw [bool_inv hr]; exact mkbool _
  · rw [str_inv hr]; exact .p _ _ (.str _)
  · cases p_inv hr; exact .p _ _ .nils
  · cases hs

theorem scalar_rep {C C' : Cx} {n n' : Nat} {x : AV} {v : Value} (hs : scalar x = true) (hr : ARep C n x v) : ARep C' n' x v := by
  have agg : ∀ (cs : List AV) (v : Value), cs.all scalar1 = true → ARep C n (.agg cs) v → ARep C' n' (.agg cs) v := fun cs v hs hr => by
    cases hr with
    | agg _ vs h1 h2 =>
      refine .agg _ _ h1 (fun k hk => scalar1_rep ?_ (h2 k hk))
      simp only [List.all_eq_true] at hs
      refine hs _ ?_
      rw [List.getD_eq_getElem?_getD, List.getElem?_eq_getElem hk]; exact List.getElem_mem _
  unfold scalar at hs
  split at hs
  · exact agg _ _ hs hr
  · rename_i vs
    cases hr with
    | tup _ xs h1 h2 =>
      refine .tup _ _ h1 (fun k hk => ?_)
      have h3 := h2 k hk
      simp only [List.all_eq_true] at hs
      have h4 := hs (vs.getD k .undef) (by rw [List.getD_eq_getElem?_getD, List.getElem?_eq_getElem hk]; exact List.getElem_mem _)
      generalize vs.getD k .undef = y at h3 h4 ⊢
      split at h4
      · exact agg _ _ h4 h3
      · exact scalar1_rep h4 h3
  · exact scalar1_rep hs hr

/-- What a callee leaves, by its caller's measure. -/
theorem Mem.after (hm : Mem F C h w) {h' : Hp} (hc : Mem ⟨w, ownB C h, C.M⟩ C' h' w') : Mem F C' h' w' := by
  have own : ∀ B, ownB C h B → F.S B ∨ F.w0.heap.size ≤ B := fun B ⟨id, h1, h2⟩ => (hm.lt id B h1 h2).2
  refine ⟨hc.objs, hc.prot, fun a v e => ?_, hc.sep, hc.inj, fun id B hid e => ?_, hc.kept, hc.ksep, hc.bnd, ?_⟩
  · rcases hc.src a v e with h1 | h1 | h1
    · exact .inl (Nat.le_trans hm.fr.size h1)
    · rcases own _ h1 with h2 | h2
      · exact .inr (.inl h2)
      · exact .inl h2
    · exact hm.src a v h1
  · obtain ⟨h1, h2⟩ := hc.lt id B hid e
    refine ⟨h1, ?_⟩
    rcases h2 with h2 | h2
    · exact own _ h2
    · exact .inr (Nat.le_trans hm.fr.size h2)
  · refine ⟨hc.fr.os.trans hm.fr.os, hc.fr.tape.trans hm.fr.tape, hc.fr.output.trans hm.fr.output, Nat.le_trans hm.fr.size hc.fr.size, fun k hk hs => ?_⟩
    rw [← hm.fr.block k hk hs]
    refine hc.fr.block k (Nat.lt_of_lt_of_le hk hm.fr.size) (fun h1 => ?_)
    rcases own _ h1 with h2 | h2
    · exact hs h2
    · have : F.w0.heap.size ≤ k := h2
      omega

/-- What a callee needs of its caller's memory. -/
theorem Mem.before (hm : Mem F C h w) : Mem ⟨w, ownB C h, C.M⟩ C h w :=
  ⟨hm.objs, hm.prot, fun _ _ e => .inr (.inr e), hm.sep, hm.inj, fun id B hid e => ⟨(hm.lt id B hid e).1, .inl ⟨id, hid, e⟩⟩, hm.kept, hm.ksep, hm.bnd, ⟨rfl, rfl, rfl, Nat.le_refl _, fun _ _ _ => rfl⟩⟩

/-- The same, with no blocks of the call's own. -/
def Cx.bare (C : Cx) : Cx := { C with μ := fun _ => .none }

/-- A callee that is shown nothing but pure values. -/
theorem Mem.alone (hm : Mem F C h w) : Mem ⟨w, ownB C.bare [], C.M⟩ C.bare [] w :=
  ⟨fun id hid => by simp at hid, hm.prot, fun _ _ e => .inr (.inr e), fun id B hid => by simp at hid, fun i j B hi => by simp at hi, fun id B hid => by simp at hid,
    hm.kept, fun B o e id hid => by simp at hid, fun id r b hid => by simp at hid, ⟨rfl, rfl, rfl, Nat.le_refl _, fun _ _ _ => rfl⟩⟩

theorem not_own {C : Cx} {B : Nat} : ¬ ownB C [] B := fun ⟨id, hid, _⟩ => by simp at hid

theorem below_of_alone {C1 : Cx} {r : Hp} (hc : Mem ⟨w, ownB C.bare [], C.M⟩ C1 r w') : Below w.heap.size w w' :=
  ⟨hc.fr.os, hc.fr.tape, hc.fr.output, hc.fr.size, fun k hk => hc.fr.block k hk not_own⟩

def joinC (C C1 : Cx) (n : Nat) : Cx := { C with M := C1.M, μ := fun i => if i < n then C.μ i else C1.μ (i - n) }

theorem arrO_rep {c : Cn} {o : Obj} {C1 C2 : Cx} {n1 n2 : Nat} (ho : isArrO o = true) (hM : ∀ a v, C1.M a = some v → C2.M a = some v) (hr : ORep C1 n1 w c o) : ORep C2 n2 w c o := by
  cases o with
  | arr g sz sh es =>
    cases c with
    | arr g B o cap sz =>
      obtain ⟨h1, h2, h3, h4, h5, c, et, h6, h7, h8⟩ := hr
      exact ⟨h1, h2, h3, h4, h5, c, et, h6, h7, fun k hk => ⟨(h8 k hk).1.mono hM, (h8 k hk).2⟩⟩
    | nil g => exact hr
    | none => exact trivial
    | box _ => exact hr.elim
    | map _ => exact hr.elim
    | loop _ _ => exact hr.elim
  | _ => cases ho

theorem Mem.join (hm : Mem F C h w) {C1 : Cx} {r : Hp} (hr : r.all isArrO = true) (hc : Mem ⟨w, ownB C.bare [], C.M⟩ C1 r w') (hx : ∀ a v, C.M a = some v → C1.M a = some v) :
    Mem F (joinC C C1 h.length) (h ++ r) w' ∧ Ext h.length C (joinC C C1 h.length) := by
  have hb := below_of_alone (C := C) hc
  have hx' : Ext h.length C (joinC C C1 h.length) := ⟨hx, fun _ _ e => e, rfl, fun id hid => .inl (by simp [joinC, hid])⟩
  have old : ∀ id, id < h.length → Hp.at (h ++ r) id = h.at id := fun id hid => by simp [Hp.at, List.getElem?_append_left hid]
  have new : ∀ id, ¬ id < h.length → Hp.at (h ++ r) id = r.at (id - h.length) := fun id hid => by simp [Hp.at, List.getElem?_append_right (Nat.le_of_not_lt hid)]
  have mold : ∀ id, id < h.length → (joinC C C1 h.length).μ id = C.μ id := fun id hid => by simp [joinC, hid]
  have mnew : ∀ id, ¬ id < h.length → (joinC C C1 h.length).μ id = C1.μ (id - h.length) := fun id hid => by simp [joinC, hid]
  have blkold : ∀ id B, id < h.length → (C.μ id).blk = some B → B < w.heap.size := fun id B hid e => (hm.lt id B hid e).1
  have blknew : ∀ j B, j < r.length → (C1.μ j).blk = some B → w.heap.size ≤ B := fun j B hj e => by
    rcases (hc.lt j B hj e).2 with h1 | h1
    · exact (not_own h1).elim
    · exact h1
  refine ⟨⟨fun id hid => ?_, hc.prot, fun a v e => ?_, fun id B hid e a v hv hab => ?_, fun i j B hi hj e1 e2 => ?_, fun id B hid e => ?_, fun B o e => ?_, fun B o e id hid e' => ?_, fun id r' b hid e => ?_, hm.fr.grow hb⟩, hx'⟩
  · by_cases hi : id < h.length
    · rw [old id hi, mold id hi]
      exact (hm.objs id hi).mono hx' (by simp) (fun B e => hb.block B (blkold id B hi e))
    · rw [new id hi, mnew id hi]
      have hj : id - h.length < r.length := by simp at hid; omega
      refine arrO_rep (C1 := C1) ?_ (fun _ _ e => e) (hc.objs _ hj)
      simp only [List.all_eq_true] at hr
      simp only [Hp.at, List.getElem?_eq_getElem hj, Option.getD_some]
      exact hr _ (List.getElem_mem _)
  · rcases hc.src a v e with h1 | h1 | h1
    · exact .inl (Nat.le_trans hm.fr.size h1)
    · exact (not_own h1).elim
    · exact hm.src a v h1
  · by_cases hi : id < h.length
    · rw [mold id hi] at e ⊢
      rw [old id hi]
      have hB := blkold id B hi e
      rcases hc.src a v hv with h1 | h1 | h1
      · have : w.heap.size ≤ a.block := h1
        omega
      · exact (not_own h1).elim
      · exact hm.sep id B hi e a v h1 hab
    · rw [mnew id hi] at e ⊢
      rw [new id hi]
      exact hc.sep _ B (by simp at hid; omega) e a v hv hab
  · by_cases h1 : i < h.length <;> by_cases h2 : j < h.length
    · rw [mold i h1] at e1; rw [mold j h2] at e2; exact hm.inj i j B h1 h2 e1 e2
    · rw [mold i h1] at e1; rw [mnew j h2] at e2
      have := blkold i B h1 e1
      have := blknew _ B (by simp at hj; omega) e2
      omega
    · rw [mnew i h1] at e1; rw [mold j h2] at e2
      have := blkold j B h2 e2
      have := blknew _ B (by simp at hi; omega) e1
      omega
    · rw [mnew i h1] at e1; rw [mnew j h2] at e2
      have := hc.inj (i - h.length) (j - h.length) B (by simp at hi; omega) (by simp at hj; omega) e1 e2
      omega
  · by_cases hi : id < h.length
    · rw [mold id hi] at e
      obtain ⟨h1, h2⟩ := hm.lt id B hi e
      exact ⟨Nat.lt_of_lt_of_le h1 hb.size, h2⟩
    · rw [mnew id hi] at e
      have hj : id - h.length < r.length := by simp at hid; omega
      exact ⟨(hc.lt _ B hj e).1, .inr (Nat.le_trans hm.fr.size (blknew _ B hj e))⟩
  · have h1 := hm.kept B o e
    rw [hb.block B (Array.getElem?_eq_some_iff.1 h1).1]; exact h1
  · have h1 := (Array.getElem?_eq_some_iff.1 (hm.kept B o e)).1
    by_cases hi : id < h.length
    · rw [mold id hi] at e'
      exact hm.ksep B o e id hi e'
    · rw [mnew id hi] at e'
      have hj : id - h.length < r.length := by simp at hid; omega
      have := blknew _ B hj e'
      omega
  · by_cases hi : id < h.length
    · rw [mold id hi] at e
      exact hm.bnd id r' b hi e
    · rw [mnew id hi] at e
      have hj : id - h.length < r.length := by simp at hid; omega
      have := hc.bnd _ r' b hj e
      omega

theorem shiftV_rep {C1 : Cx} {m k : Nat} {x : AV} {v : Value} (hr : ARep C1 m x v) : ARep (joinC C C1 k) (k + m) (shiftV k x) v := by
  cases x with
  | p y => exact .p _ _ (p_inv (C := C1) hr)
  | arr id g off len =>
    have e : (joinC C C1 k).μ (id + k) = C1.μ id := by
      show (if id + k < k then _ else _) = _
      rw [if_neg (by omega), Nat.add_sub_cancel]
    cases hr with
    | arr _ _ _ _ B o cap sz a h1 h2 h3 h4 => exact .arr _ _ _ _ B o cap sz a (by omega) (by rw [e]; exact h2) h3 h4
    | arrN _ _ h1 h2 => exact .arrN _ _ (by omega) (by rw [e]; exact h2)
    | arrS _ _ _ _ g' a cap h1 h2 h3 => exact .arrS _ _ _ _ g' _ _ (by omega) (by rw [e]; exact h2) h3
  | _ => exact .undef _

end
end Go.En
set_option linter.unusedSimpArgs false
namespace Go.En
open Go.RowKit

section
variable {P : Program} {T : Tab} {F : Base} {w w' : World} {C C' : Cx} {h rd : Hp} {n : Nat} {tm tm' : Tm}

theorem run_call {o : Oper} {a : Act} {c : Call} {f : Operand} {fi : Nat} {caps : Array Value} (ho : o.op = .call c) (hc : c.callee = .value f) (hv : a.eval f = .func (.func fi) #[] caps)
    (hfn : ∃ fn, P.funcs[fi]? = some fn ∧ fn.body.isNone = false ∧ (fn.name == "runtime.NumGoroutine") = false) :
    (execOp a.eval o).run P w = .ok (.enter fi (c.args.map a.eval ++ caps)) w := by
  obtain ⟨fn, h1, h2, h3⟩ := hfn
  have h2' : ¬ (fn.body = none) := by
    intro e
    rw [e] at h2
    cases h2
  have h3' : ¬ (fn.name = "runtime.NumGoroutine") := by simpa using h3
  simp [execOp, ho, resolve, hc, hv, Deferred.ofValue, invoke, callFunc, h1, h2', h3']

theorem calleeOf_rep {x : Operand} {v : Value} {fi : Nat} {cs : List AV} (hc : calleeOf tm x = some (fi, cs)) (hr : ARep C n (uv (evo tm x)) v) :
    ∃ caps, v = .func (.func fi) #[] caps ∧ caps.size = cs.length ∧ ∀ k, k < cs.length → ARep C n (cs.getD k .undef) (caps.getD k Go.undef) := by
  unfold calleeOf at hc
  split at hc
  · rename_i f ps e
    cases hc
    rw [e] at hr
    cases p_inv hr with
    | fn _ _ caps h1 h2 => exact ⟨caps, rfl, by simpa using h1, fun k hk => by
        have hk' : k < ps.length := by simpa using hk
        rw [mapp_getD hk']
        exact .p _ _ (h2 k hk')⟩
  · rename_i f ps e
    cases hc
    rw [e] at hr
    cases hr with
    | fn _ _ caps h1 h2 => exact ⟨caps, rfl, h1, h2⟩
  · cases hc

theorem append_getD {α : Type} {l m : List α} {d : α} {k : Nat} : (l ++ m).getD k d = if k < l.length then l.getD k d else m.getD (k - l.length) d := by
  simp only [List.getD_eq_getElem?_getD]
  split
  · rename_i h; rw [List.getElem?_append_left h]
  · rename_i h; rw [List.getElem?_append_right (by omega)]

theorem args_rep {a : Act} (ht : ∀ i, ARep C n (look tm i) (a.tmps.getD i Go.undef)) {args : Array Operand} {cs : List AV} {caps : Array Value} (hk : eks true tm args.toList = true) (h1 : caps.size = cs.length)
    (h2 : ∀ k, k < cs.length → ARep C n (cs.getD k .undef) (caps.getD k Go.undef)) : (args.map a.eval ++ caps).size = (evs tm args.toList ++ cs).length ∧
    ∀ k, k < (evs tm args.toList ++ cs).length → ARep C n ((evs tm args.toList ++ cs).getD k .undef) ((args.map a.eval ++ caps).getD k Go.undef) := by
  have hl : (evs tm args.toList).length = args.size := by simp [evs]
  refine ⟨by simp [hl, h1], fun k hk' => ?_⟩
  rw [append_getD, hl]
  simp only [List.length_append, hl] at hk'
  split
  · rename_i hlt
    have := evs_rep ht hk k (by simpa using hlt)
    have e : (args.map a.eval ++ caps).getD k Go.undef = (args.toList.map a.eval).getD k Go.undef := by
      simp only [Array.getD_eq_getD_getElem?, List.getD_eq_getElem?_getD]
      rw [Array.getElem?_append_left (by simpa using hlt)]
      simp
    rw [e]; exact this
  · rename_i hge
    have e : (args.map a.eval ++ caps).getD k Go.undef = caps.getD (k - args.size) Go.undef := by
      simp only [Array.getD_eq_getD_getElem?]
      rw [Array.getElem?_append_right (by simp; omega)]
      simp
    rw [e]; exact h2 _ (by omega)

theorem bs_rep (hm : Mem F C h w) (hrd : ∀ id, rd.at id ≠ .dead → h.at id = rd.at id) {as : List AV} {vs : Array Value} (hs : vs.size = as.length) (hr : ∀ k, k < as.length → ARep C h.length (as.getD k .undef) (vs.getD k Go.undef)) (mu : Bool) :
    vs.size = (bsOf mu rd as).length ∧ ∀ k, k < (bsOf mu rd as).length → ARep (C.withM (shown C h (idsOf mu as) w)) h.length ((bsOf mu rd as).getD k .undef) (vs.getD k Go.undef) := by
  cases mu with
  | true =>
    simp only [bsOf, idsOf, if_true]
    exact ⟨hs, fun k hk => (hr k hk).mono (shown_ext _ _) (Nat.le_refl _)⟩
  | false =>
    simp only [bsOf, idsOf, Bool.false_eq_true, if_false]
    refine ⟨by simpa using hs, fun k hk => ?_⟩
    have hk' : k < as.length := by simpa using hk
    have e : (as.map (snap rd)).getD k .undef = snap rd (as.getD k .undef) := by simp [List.getD_eq_getElem?_getD, hk']
    rw [e]
    refine snap_rep hm hrd (hr k hk') (fun id hid => ?_)
    simp only [List.mem_flatMap]
    refine ⟨as.getD k .undef, ?_, hid⟩
    rw [List.getD_eq_getElem?_getD, List.getElem?_eq_getElem hk']; exact List.getElem_mem _

theorem pure_cells {bs : List AV} (hp : (toPs (bs.flatMap AV.cells)).isSome = true) {k : Nat} (hk : k < bs.length) : ∀ x ∈ (bs.getD k .undef).cells, ∃ p, x = .p p := fun x hx =>
  toPs_some hp x (by
    simp only [List.mem_flatMap]
    refine ⟨bs.getD k .undef, ?_, hx⟩
    rw [List.getD_eq_getElem?_getD, List.getElem?_eq_getElem hk]; exact List.getElem_mem _)

/-- What a callee that is shown pure values alone leaves. -/
def PureEnd (fresh : Nat → Bool) (f : Nat) (C : Cx) (h : Hp) (ids : List Nat) (w : World) (r : AV × Hp) (u : Value) (w' : World) : Prop :=
  ∃ C1, (∀ a v, shown C h ids w a = some v → C1.M a = some v) ∧ Mem ⟨w, ownB (C.withM (shown C h ids w)).bare [], shown C h ids w⟩ C1 r.2 w' ∧ ARep C1 r.2.length r.1 u ∧
    (fresh f = true → ARep (C1.withM (newM w C1.M)) r.2.length r.1 u)

variable {L : LoopTab} {fresh : Nat → Bool}

/-- A call that is shown pure values alone. -/
theorem call_pure {f : Nat} {as : List AV} {vs : Array Value} {r : AV × Hp} {mu : Bool} (hL : C.L = L) (hm : Mem F C h w) (hrd : ∀ id, rd.at id ≠ .dead → h.at id = rd.at id) (hs : vs.size = as.length)
    (hr : ∀ k, k < as.length → ARep C h.length (as.getD k .undef) (vs.getD k Go.undef)) (hp : (toPs ((bsOf mu rd as).flatMap AV.cells)).isSome = true) (hok : CallOk L fresh P f (bsOf mu rd as) [] r) :
    Calls P f vs w fun
      | .returned u, w' => PureEnd fresh f C h (idsOf mu as) w r u w'
      | _, _ => False := by
  obtain ⟨h1, h2⟩ := bs_rep hm hrd hs hr mu
  have hm1 := hm.share (idsOf mu as)
  refine (hok.calls w (C.withM (shown C h (idsOf mu as) w)).bare vs hL hm1.alone h1 (fun k hk => pure_rep (C := C.withM (shown C h (idsOf mu as) w)) (C' := (C.withM (shown C h (idsOf mu as) w)).bare) rfl (pure_cells hp hk) (h2 k hk))).mono fun e w' he => ?_
  cases e with
  | returned u =>
    obtain ⟨C1, h3, _, h4, h6, h7⟩ := he
    exact ⟨C1, h3.M, h4, h6, fun hf => h7 hf (funext fun B => propext ⟨not_own, False.elim⟩)⟩
  | panicked _ => exact he.elim
  | outgrown => exact he.elim

/-- Memory that nobody writes, and what is new of it. -/
noncomputable def plusM (C : Cx) (w : World) (M : Addr → Option Value) (a : Addr) : Option Value :=
  match C.M a with
  | some v => some v
  | none => newM w M a

theorem Mem.plus (hm : Mem F C h w) (hb : Below w.heap.size w w') {M : Addr → Option Value} (hM : ∀ a v, M a = some v → w'.cell? a = some v) : Mem F (C.withM (plusM C w M)) h w' ∧ Ext h.length C (C.withM (plusM C w M)) := by
  have inv : ∀ {a : Addr} {v : Value}, plusM C w M a = some v → C.M a = some v ∨ (C.M a = none ∧ w.heap.size ≤ a.block ∧ M a = some v) := by
    intro a v e
    unfold plusM at e
    split at e
    · rename_i u hu; cases e; exact .inl hu
    · rename_i hu
      unfold newM at e
      split at e
      · rename_i hle; exact .inr ⟨hu, hle, e⟩
      · cases e
  have hx : Ext h.length C (C.withM (plusM C w M)) := ⟨fun a v e => by show plusM C w M a = some v; unfold plusM; rw [e], fun _ _ e => e, rfl, fun _ _ => .inl rfl⟩
  have hg := hm.grow hb
  refine ⟨⟨fun id hid => (hg.objs id hid).mono hx (Nat.le_refl _) (fun _ _ => rfl), fun a v e => ?_, fun a v e => ?_, fun id B hid e a v hv hab => ?_, hg.inj, hg.lt, hg.kept, hg.ksep, hg.bnd, hg.fr⟩, hx⟩
  · rcases inv e with e | ⟨_, _, e⟩
    · exact hg.prot a v e
    · exact hM a v e
  · rcases inv e with e | ⟨_, h1, _⟩
    · exact hg.src a v e
    · exact .inl (Nat.le_trans hm.fr.size h1)
  · rcases inv hv with hv | ⟨_, h1, _⟩
    · exact hg.sep id B hid e a v hv hab
    · have := (hm.lt id B hid e).1
      omega

theorem pure_done {f : Nat} {as : List AV} {r : AV × Hp} {mu : Bool} {u : Value} (hm : Mem F C h w) (hr0 : r.2 = []) (he : PureEnd fresh f C h (idsOf mu as) w r u w') :
    ∃ C', Ext h.length C C' ∧ (∀ id, id < h.length → C'.μ id = C.μ id) ∧ Mem F C' (if scalar r.1 = true ∨ fresh f = true then h else share h (idsOf mu as)) w' ∧ ARep C' h.length r.1 u := by
  obtain ⟨C1, h1, h2, h3, h3'⟩ := he
  have hm1 := hm.share (idsOf mu as)
  rw [hr0] at h2 h3 h3'
  have hbel := below_of_alone (C := C.withM (shown C h (idsOf mu as) w)) h2
  by_cases hsc : scalar r.1 = true
  · rw [if_pos (.inl hsc)]
    exact ⟨C, Ext.refl _ _, fun _ _ => rfl, hm.grow hbel, scalar_rep hsc h3⟩
  · by_cases hfr : fresh f = true
    · rw [if_pos (.inr hfr)]
      obtain ⟨g1, g2⟩ := hm.plus hbel (M := C1.M) h2.prot
      refine ⟨_, g2, fun _ _ => rfl, g1, zero_rep' (fun a v e => ?_) (h3' hfr)⟩
      show plusM C w C1.M a = some v
      unfold plusM
      split
      · rename_i u hu
        have e1 := h2.prot a v (by
          have : newM w C1.M a = some v := e
          unfold newM at this
          split at this
          · exact this
          · cases this)
        have e2 := hm.prot a u hu
        have := cell_lt e2
        have hle : w.heap.size ≤ a.block := by
          have : newM w C1.M a = some v := e
          unfold newM at this
          split at this
          · assumption
          · cases this
        omega
      · exact e
    · rw [if_neg (fun h => h.elim hsc hfr)]
      obtain ⟨h4, h5⟩ := hm1.join (r := []) rfl h2 h1
      rw [share_length, List.append_nil] at h4
      rw [share_length] at h5
      exact ⟨_, (shown_ext _ _).trans h5, fun id hid => by simp [joinC, hid]; rfl, h4, zero_rep' (C := C1) (C' := joinC (C.withM (shown C h (idsOf mu as) w)) C1 h.length) (fun _ _ e => e) h3⟩

theorem pure_more {f : Nat} {as : List AV} {r : AV × Hp} {mu : Bool} {u : Value} (hm : Mem F C h w) (hra : r.2.all isArrO = true) (he : PureEnd fresh f C h (idsOf mu as) w r u w') :
    ∃ C', Ext h.length C C' ∧ Mem F C' (share h (idsOf mu as) ++ r.2) w' ∧ ARep C' (h.length + r.2.length) (shiftV h.length r.1) u := by
  obtain ⟨C1, h1, h2, h3, _⟩ := he
  have hm1 := hm.share (idsOf mu as)
  obtain ⟨h4, h5⟩ := hm1.join hra h2 h1
  rw [share_length] at h4 h5
  exact ⟨_, (shown_ext _ _).trans h5, h4, shiftV_rep h3⟩

/-- A call that is handed the blocks there are. -/
theorem call_heap {f : Nat} {as : List AV} {vs : Array Value} {r : AV × Hp} {mu : Bool} (hL : C.L = L) (hm : Mem F C h w) (hs : vs.size = as.length)
    (hr : ∀ k, k < as.length → ARep C h.length (as.getD k .undef) (vs.getD k Go.undef)) (hok : CallOk L fresh P f (bsOf mu h as) (share h (idsOf mu as)) r) :
    Calls P f vs w fun
      | .returned u, w' => ∃ C', Ext h.length C C' ∧ Mem F C' r.2 w' ∧ ARep C' r.2.length r.1 u
      | _, _ => False := by
  obtain ⟨h1, h2⟩ := bs_rep hm (fun _ _ => rfl) hs hr mu
  have hm1 := hm.share (idsOf mu as)
  have hl := share_length (h := h) (idsOf mu as)
  refine (hok.calls w (C.withM (shown C h (idsOf mu as) w)) vs hL hm1.before h1 (fun k hk => by rw [hl]; exact h2 k hk)).mono fun e w' he => ?_
  cases e with
  | returned u =>
    obtain ⟨C1, h3, _, h4, h6, _⟩ := he
    rw [hl] at h3
    exact ⟨C1, (shown_ext _ _).trans h3, hm1.after h4, h6⟩
  | panicked _ => exact he.elim
  | outgrown => exact he.elim

-- ---------------------------------------------------------------- one operation
theorem mkg_rep {g : Option Bool} (hg : g.getD true = true) {x : AV} {v : Value} (hr : ARep C n x v) : ARep C n (mkg g x) v := by
  cases g with
  | none => exact hr
  | some b => simp at hg; subst hg; exact .gdT _ _ hr

theorem mkg_not {g : Option Bool} (hg : g.getD true = false) {x : AV} : ARep C n (mkg g x) Go.undef := by
  cases g with
  | none => cases hg
  | some b => simp at hg; subst hg; exact .gdF _

section
variable {ops : Array Oper} {o : Oper} {a : Act} {g : Option Bool}

theorem noDefer_V {op : Op} {r : O} (h1 : opV T rd tm op = some r) : ∀ c, op ≠ .defer c := by
  intro c e; subst e; simp [opV] at h1
theorem noDefer_A {own : Nat} {op : Op} {r : A} (h1 : opA T own rd tm op = some r) : ∀ c, op ≠ .defer c := by
  intro c e; subst e; simp [opA] at h1
theorem noDefer_W {op : Op} {r : Hp × AV} (h1 : opW T h tm op = some r) : ∀ c, op ≠ .defer c := by
  intro c e; subst e; simp [opW] at h1
theorem noDefer_C {op : Op} {c : Call} (h1 : op = .call c) : ∀ c, op ≠ .defer c := by
  intro c e; subst e; cases h1

variable {rn : Option Nat}

theorem V_does (hT : T.Ok P) (hm : Mem F C h w) (hrd : ∀ id, rd.at id ≠ .dead → h.at id = rd.at id) (ht : ∀ i, ARep C h.length (look tm i) (a.tmps.getD i Go.undef)) (hw : Region.wanted o (yielded ops a.tmps) = g.getD true)
    {r : O} (h1 : opV T rd tm o.op = some r) (hk : (!g.getD true || (r.ok && opK (g.getD true) tm o.op)) = true) : Does rn P ops o a w fun u w' => w' = w ∧ ARep C h.length (mkg g r.v) u := by
  cases hg : g.getD true with
  | false => rw [hg] at hw; exact does_not hw ⟨rfl, mkg_not hg⟩
  | true =>
    rw [hg] at hw hk
    simp at hk
    obtain ⟨v, h2, h3⟩ := opV_sound hT hm hrd ht h1 hk.1 hk.2
    exact does_value (noDefer_V h1) hw h2 ⟨rfl, mkg_rep hg h3⟩

theorem A_does (hT : T.Ok P) (hm : Mem F C h w) (hrd : ∀ id, rd.at id ≠ .dead → h.at id = rd.at id) (ht : ∀ i, ARep C h.length (look tm i) (a.tmps.getD i Go.undef)) (hw : Region.wanted o (yielded ops a.tmps) = g.getD true)
    {own : Nat} {r : A} (h1 : opA T own rd tm o.op = some r) (hk : (!g.getD true || (r.ok && opK (g.getD true) tm o.op)) = true) {id : Nat} (hf : Frees C h id (r.obj id :: r.aux)) :
    Does rn P ops o a w fun u w' => ∃ C', Ext h.length C C' ∧ (∀ j, ¬ (id ≤ j ∧ j < id + (r.aux.length + 1)) → C'.μ j = C.μ j) ∧ Mem F C' h w' ∧ ARep C' h.length (mkg g (r.mk id)) u := by
  cases hg : g.getD true with
  | false => rw [hg] at hw; exact does_not hw ⟨C, Ext.refl _ _, fun _ _ => rfl, hm, mkg_not hg⟩
  | true =>
    rw [hg] at hw hk
    simp at hk
    obtain ⟨v, w', C', h2, h3, h4, h5, h6⟩ := opA_sound hT hm hrd ht h1 hk.1 hk.2 hf
    exact does_value (noDefer_A h1) hw h2 ⟨C', h3, h4, h5, mkg_rep hg h6⟩

end
end
end Go.En
set_option linter.unusedSimpArgs false
namespace Go.En
open Go.RowKit

section
variable {P : Program} {T : Tab} {F : Base} {w w' : World} {C C' : Cx} {h rd : Hp} {n : Nat} {tm tm' : Tm}
variable {ops : Array Oper} {o : Oper} {a : Act} {g : Option Bool}

theorem obind_inv {α β : Type} {x : Option α} {f : α → Option β} {y : β} (h : obind x f = some y) : ∃ u, x = some u ∧ f u = some y := by
  cases x with
  | none => cases h
  | some u => exact ⟨u, rfl, h⟩
theorem chk_inv {b : Bool} {u : Unit} (h : chk b = some u) : b = true := by
  cases b with
  | true => rfl
  | false => cases h

theorem calleeFn_inv {op : Op} {f : Operand} {l : List Operand} (hc : calleeFn op = some (f, l)) : ∃ c, op = .call c ∧ c.callee = .value f ∧ l = c.args.toList := by
  unfold calleeFn at hc
  split at hc
  · rename_i c
    split at hc
    · rename_i f' e
      cases hc
      exact ⟨c, rfl, e, rfl⟩
    · cases hc
  · cases hc

/-- What a call is given. -/
theorem call_args {ht : ∀ i, ARep C n (look tm i) (a.tmps.getD i Go.undef)} {c : Call} {f : Operand} {fi : Nat} {cs : List AV} (hc : c.callee = .value f) (hk : opK true tm (.call c) = true) (hf : calleeOf tm f = some (fi, cs)) :
    ∃ caps, a.eval f = .func (.func fi) #[] caps ∧ (c.args.map a.eval ++ caps).size = (evs tm c.args.toList ++ cs).length ∧
      ∀ k, k < (evs tm c.args.toList ++ cs).length → ARep C n ((evs tm c.args.toList ++ cs).getD k .undef) ((c.args.map a.eval ++ caps).getD k Go.undef) := by
  have hk' : eks true tm (f :: c.args.toList) = true := by simpa [opK, hc] using hk
  have hk1 : uk true (evo tm f) = true := by
    simp only [eks, List.all_cons, Bool.and_eq_true] at hk'; exact hk'.1
  have hk2 : eks true tm c.args.toList = true := by
    simp only [eks, List.all_cons, Bool.and_eq_true] at hk'; exact hk'.2
  obtain ⟨caps, h1, h2, h3⟩ := calleeOf_rep hf (opd (a := a) ht hk1)
  obtain ⟨h4, h5⟩ := args_rep (a := a) ht hk2 h2 h3
  exact ⟨caps, h1, h4, h5⟩

theorem frees_room {os : List Obj} : Frees (C.cut h.length) (h ++ os) h.length os := fun k ob hk => by
  have hlt := (List.getElem?_eq_some_iff.1 hk).1
  refine ⟨by simp; omega, cut_new (by omega), ?_⟩
  simp [Hp.at, List.getElem?_append_right, hk]

/-- What a call of a loop's yield comes to. -/
structure YieldOk (L : LoopTab) (P : Program) (id : Nat) (as : List AV) (h : Hp) (r : Bool × Hp) : Prop where
  len : h.length ≤ r.2.length
  rounds : ∀ (w : World) (C : Cx) (vs : Array Value) (l b : Nat), C.L = L → Mem ⟨w, ownB C h, C.M⟩ C h w → id < h.length → C.μ id = .loop l b → vs.size = as.length → (∀ k, k < as.length → ARep C h.length (as.getD k .undef) (vs.getD k Go.undef)) →
    ∃ fn tmps assign body, (Instr.yield l vs).run P w = .ok (.round l fn tmps assign body) w ∧ RoundIn Fence.wide 0 P l fn tmps assign body w fun
      | .returned u, w' => u = .bool r.1 ∧ ∃ C', Ext h.length C C' ∧ C'.K = C.K ∧ Mem ⟨w, ownB C h, C.M⟩ C' r.2 w'
      | _, _ => False

theorem yieldOf_rep {x : Operand} {v : Value} {id : Nat} (hc : yieldOf tm x = some id) (hr : ARep C n (uv (evo tm x)) v) : ∃ l b, v = .func (.yield l) #[] #[] ∧ id < n ∧ C.μ id = .loop l b := by
  unfold yieldOf at hc
  split at hc
  · rename_i i e
    cases hc
    rw [e] at hr
    cases hr with
    | yl _ l b h1 h2 => exact ⟨l, b, rfl, h1, h2⟩
  · cases hc

theorem run_yield {c : Call} {f : Operand} {l : Nat} (ho : o.op = .call c) (hc : c.callee = .value f) (hv : a.eval f = .func (.yield l) #[] #[]) : (execOp a.eval o).run P w = (Instr.yield l (c.args.map a.eval)).run P w := by
  simp [execOp, ho, resolve, hc, hv, Deferred.ofValue, invoke]

/-- One operation, those before it done. -/
theorem evOp_seq {L : LoopTab} {rn : Option Nat} {x : X} {s s' : St} (hT : x.T.Ok P) (hcalls : ∀ f as h r, x.call f as h = some r → CallOk L x.T.fresh P f as h r) (hyields : ∀ id as h r, x.yield id as h = some r → YieldOk L P id as h r) (hL : C.L = L) (he : evOp x s.hp false g o s = some s') (hm : Mem F C s.hp w)
    (ht : ∀ i, ARep C s.hp.length (look s.tm i) (a.tmps.getD i Go.undef)) (hw : Region.wanted o (yielded ops a.tmps) = g.getD true) :
    (∀ d, o.dst = some d → d < x.nt) ∧ s.hp.length ≤ s'.hp.length ∧ ∃ v, s'.tm = putO s.tm o.dst v ∧ Does rn P ops o a w fun u w' => ∃ C', Ext s.hp.length C C' ∧ Mem F C' s'.hp w' ∧ ARep C' s'.hp.length v u := by
  unfold evOp at he
  obtain ⟨_, h0, he⟩ := obind_inv he
  have hd : ∀ d, o.dst = some d → d < x.nt := fun d e => by
    have := chk_inv h0
    rw [e] at this
    simpa [dstOk] using this
  refine ⟨hd, ?_⟩
  have hrd : ∀ id, s.hp.at id ≠ .dead → s.hp.at id = s.hp.at id := fun _ _ => rfl
  generalize ownD x.T x.f o.dst = own at he
  cases hA : opA x.T own s.hp s.tm o.op with
  | some r =>
    rw [hA] at he
    simp only [ocase_some] at he
    obtain ⟨_, h1, he⟩ := obind_inv he
    have h1 := chk_inv h1
    cases he
    refine ⟨by simp, _, rfl, ?_⟩
    obtain ⟨hm1, hx1⟩ := hm.room (r.obj s.hp.length :: r.aux)
    refine (A_does hT hm1 (rd := s.hp) (fun id hid => ?_) (fun i => (ht i).mono hx1 (by simp)) hw hA h1 frees_room).mono fun u w' hu => ?_
    · have : id < s.hp.length := by
        rcases Nat.lt_or_ge id s.hp.length with h | h
        · exact h
        · exact absurd (by simp [Hp.at, List.getElem?_eq_none h]) hid
      simp [Hp.at, List.getElem?_append_left this]
    · obtain ⟨C', h2, _, h3, h4⟩ := hu
      exact ⟨C', hx1.trans (h2.le (by simp)), h3, h4⟩
  | none =>
  rw [hA] at he
  simp only [ocase_none] at he
  cases hV : opV x.T s.hp s.tm o.op with
  | some r =>
    rw [hV] at he
    simp only [ocase_some] at he
    obtain ⟨_, h1, he⟩ := obind_inv he
    have h1 := chk_inv h1
    cases he
    refine ⟨Nat.le_refl _, _, rfl, ?_⟩
    refine (V_does hT hm hrd ht hw hV h1).mono fun u w' hu => ?_
    obtain ⟨rfl, h2⟩ := hu
    exact ⟨C, Ext.refl _ _, hm, h2⟩
  | none =>
  rw [hV] at he
  simp only [ocase_none] at he
  obtain ⟨_, h1, he⟩ := obind_inv he
  have h1 := chk_inv h1
  cases hC : calleeFn o.op with
  | some c =>
    obtain ⟨f, l⟩ := c
    rw [hC] at he
    simp only [ocase_some] at he
    obtain ⟨c, ho, hcc, rfl⟩ := calleeFn_inv hC
    cases hY : yieldOf s.tm f with
    | some id =>
      rw [hY] at he
      simp only [ocase_some, evYield] at he
      split at he
      · rename_i hg
        rw [if_neg (by simp)] at he
        obtain ⟨r, hyl, he⟩ := obind_inv he
        cases he
        have hok := hyields _ _ _ _ hyl
        refine ⟨hok.len, _, rfl, ?_⟩
        rw [hg] at hw h1
        have hk' : eks true s.tm (f :: c.args.toList) = true := by
          rw [ho] at h1
          simpa [opK, hcc] using h1
        have hk1 : uk true (evo s.tm f) = true := by
          simp only [eks, List.all_cons, Bool.and_eq_true] at hk'; exact hk'.1
        have hk2 : eks true s.tm c.args.toList = true := by
          simp only [eks, List.all_cons, Bool.and_eq_true] at hk'; exact hk'.2
        obtain ⟨l, b, hv, hid, hμ⟩ := yieldOf_rep hY (opd (a := a) ht hk1)
        obtain ⟨h4, h5⟩ := args_rep (a := a) (cs := []) (caps := #[]) ht hk2 rfl (by simp)
        simp only [List.append_nil, Array.append_empty] at h4 h5
        obtain ⟨fn, tmps, asg, body, h6, h7⟩ := hok.rounds w C _ l b hL hm.before hid hμ h4 h5
        refine does_round (noDefer_C ho) hw (by rw [run_yield ho hcc hv, h6]) (h7.mono fun e w' he => ?_)
        cases e with
        | returned u =>
          obtain ⟨rfl, C', h8, _, h9⟩ := he
          exact ⟨C', h8, hm.after h9, mkg_rep hg (mkbool _)⟩
        | panicked _ => exact he.elim
        | outgrown => exact he.elim
      · rename_i hg
        cases he
        have hg' : g.getD true = false := by simpa using hg
        rw [hg'] at hw
        exact ⟨Nat.le_refl _, _, rfl, does_not hw ⟨C, Ext.refl _ _, hm, .gdF _⟩⟩
    | none =>
    rw [hY] at he
    simp only [ocase_none] at he
    obtain ⟨⟨fi, cs⟩, hcal, he⟩ := obind_inv he
    simp only at hcal he
    have key : g.getD true = true → ∃ caps, a.eval f = .func (.func fi) #[] caps ∧ (c.args.map a.eval ++ caps).size = (evs s.tm c.args.toList ++ cs).length ∧
      ∀ k, k < (evs s.tm c.args.toList ++ cs).length → ARep C s.hp.length ((evs s.tm c.args.toList ++ cs).getD k .undef) ((c.args.map a.eval ++ caps).getD k Go.undef) := fun hg => by
      rw [hg, ho] at h1
      exact call_args (ht := ht) hcc (by simpa using h1) hcal
    generalize hsm : evs s.tm c.args.toList ++ cs = as at he key
    change (if (toPs ((bsOf (x.T.muts fi) s.hp as).flatMap AV.cells)).isSome = true then _ else _) = some s' at he
    have no : g.getD true = false → s' = ⟨putO s.tm o.dst (.gd false .undef), s.hp⟩ → s.hp.length ≤ s'.hp.length ∧ ∃ v, s'.tm = putO s.tm o.dst v ∧ Does rn P ops o a w fun u w' => ∃ C', Ext s.hp.length C C' ∧ Mem F C' s'.hp w' ∧ ARep C' s'.hp.length v u := by
      intro hg e
      subst e
      rw [hg] at hw
      exact ⟨Nat.le_refl _, _, rfl, does_not hw ⟨C, Ext.refl _ _, hm, .gdF _⟩⟩
    split at he
    · rename_i hp
      cases hcl : x.call fi (bsOf (x.T.muts fi) s.hp as) [] with
      | none =>
        change ocase (x.call fi (bsOf (x.T.muts fi) s.hp as) []) _ _ = some s' at he
        rw [hcl] at he
        simp only [ocase_none] at he
        split at he
        · cases he
        · rename_i hg
          cases he
          exact no (by simpa using hg) rfl
      | some r =>
        change ocase (x.call fi (bsOf (x.T.muts fi) s.hp as) []) _ _ = some s' at he
        rw [hcl] at he
        simp only [ocase_some] at he
        have hok := hcalls _ _ _ _ hcl
        split at he
        · rename_i hr0
          have hr0' : r.2 = [] := List.eq_nil_of_length_eq_zero hr0
          by_cases hgd : g.getD true = true
          case neg =>
            have hgf : g.getD true = false := by simpa using hgd
            split at he
            · cases he
              rw [hgf] at hw
              exact ⟨Nat.le_refl _, _, rfl, does_not hw ⟨C, Ext.refl _ _, hm, mkg_not hgf⟩⟩
            · cases he
              exact no hgf rfl
          have both : s' = ⟨putO s.tm o.dst (mkg g r.1), if scalar r.1 = true ∨ x.T.fresh fi = true then s.hp else share s.hp (idsOf (x.T.muts fi) as)⟩ := by
            split at he
            · rename_i hsc; cases he; rw [if_pos hsc]
            · rename_i hsc
              rw [if_neg (by simp)] at he
              cases he; rw [if_neg hsc]
          subst both
          have hlen : (if scalar r.1 = true ∨ x.T.fresh fi = true then s.hp else share s.hp (idsOf (x.T.muts fi) as)).length = s.hp.length := by split <;> simp [share_length]
          refine ⟨by rw [hlen]; exact Nat.le_refl _, _, rfl, ?_⟩
          cases hg : g.getD true with
          | false =>
            rw [hg] at hw
            refine does_not hw ⟨C, Ext.refl _ _, ?_, mkg_not hg⟩
            split
            · exact hm
            · exact hm.mark _
          | true =>
            obtain ⟨caps, hv, hs, hr⟩ := key hg
            rw [hg] at hw
            refine does_enter (noDefer_C ho) hw (run_call ho hcc hv hok.fn) ((call_pure hL hm hrd hs hr hp hok).mono fun e w' he => ?_)
            cases e with
            | returned u =>
              obtain ⟨C', h2, _, h3, h4⟩ := pure_done hm hr0' he
              exact ⟨C', h2, h3, by rw [hlen]; exact mkg_rep hg h4⟩
            | panicked _ => exact he.elim
            | outgrown => exact he.elim
        · split at he
          · rename_i hg
            split at he
            · rename_i hc2
              cases he
              obtain ⟨caps, hv, hs, hr⟩ := key hg
              rw [hg] at hw
              refine ⟨by simp only [List.length_append, share_length]; omega, _, rfl, ?_⟩
              refine does_enter (noDefer_C ho) hw (run_call ho hcc hv hok.fn) ((call_pure hL hm hrd hs hr hp hok).mono fun e w' he => ?_)
              cases e with
              | returned u =>
                obtain ⟨C', h2, h3, h4⟩ := pure_more hm hc2.2 he
                refine ⟨C', h2, h3, ?_⟩
                simp only [List.length_append, share_length]
                exact mkg_rep hg h4
              | panicked _ => exact he.elim
              | outgrown => exact he.elim
            · cases he
          · rename_i hg
            cases he
            exact no (by simpa using hg) rfl
    · split at he
      · rename_i hg
        rw [if_neg (by simp)] at he
        obtain ⟨r, hcl, he⟩ := obind_inv he
        cases he
        have hok := hcalls _ _ _ _ hcl
        obtain ⟨caps, hv, hs, hr⟩ := key hg
        rw [hg] at hw
        refine ⟨by rw [← share_length (h := s.hp) (idsOf (x.T.muts fi) as)]; exact hok.len, _, rfl, ?_⟩
        refine does_enter (noDefer_C ho) hw (run_call ho hcc hv hok.fn) ((call_heap (mu := x.T.muts fi) hL hm hs hr hok).mono fun e w' he => ?_)
        cases e with
        | returned u =>
          obtain ⟨C', h2, h3, h4⟩ := he
          exact ⟨C', h2, h3, mkg_rep hg h4⟩
        | panicked _ => exact he.elim
        | outgrown => exact he.elim
      · rename_i hg
        cases he
        exact no (by simpa using hg) rfl
  | none =>
    rw [hC] at he
    simp only [ocase_none] at he
    split at he
    · rename_i hg
      rw [if_neg (by simp)] at he
      obtain ⟨r, hW, he⟩ := obind_inv he
      cases he
      rw [hg] at hw h1
      obtain ⟨v, w', C', h2, h3, h4, h5, h6, _⟩ := opW_sound hT hm ht hW (by simpa using h1)
      refine ⟨by rw [h5]; exact Nat.le_refl _, _, rfl, ?_⟩
      rcases h2 with h2 | ⟨h2, rfl⟩
      · exact does_value (noDefer_W hW) hw h2 ⟨C', h3, h4, by rw [h5]; exact mkg_rep hg h6⟩
      · exact does_skip (noDefer_W hW) hw h2 ⟨C', h3, h4, by rw [h5]; exact mkg_rep hg h6⟩
    · rename_i hg
      cases he
      rw [Bool.not_eq_true] at hg
      rw [hg] at hw
      exact ⟨Nat.le_refl _, _, rfl, does_not hw ⟨C, Ext.refl _ _, hm, .gdF _⟩⟩

end
end Go.En
set_option linter.unusedSimpArgs false
namespace Go.En
open Go.RowKit

section
variable {P : Program} {T : Tab} {F : Base} {w w' : World} {C C' : Cx} {h rd : Hp} {n : Nat} {tm tm' : Tm}
variable {ops : Array Oper} {o : Oper} {a : Act} {g : Option Bool}

theorem look_map (f : Nat → AV) (l : List Nat) (i : Nat) : look (l.map fun k => (k, f k)) i = if i ∈ l then f i else .undef := by
  induction l with
  | nil => simp [look]
  | cons k l ih =>
    simp only [List.map_cons, look, ih, List.mem_cons]
    by_cases h1 : k = i
    · subst h1; simp
    · simp only [h1, if_false, Ne.symm h1, false_or]

/-- The variables that an operation reads, and no others. -/
def only (tm : Tm) (l : List Nat) : Tm := l.map fun k => (k, look tm k)

theorem only_evo {l : List Operand} {x : Operand} (hx : x ∈ l) : evo tm x = evo (only tm (slotsOf l)) x := by
  cases x with
  | tmp t =>
    have : t ∈ slotsOf l := by
      simp only [slotsOf, List.mem_filterMap]
      exact ⟨.tmp t, hx, rfl⟩
    simp [evo, only, look_map, this]
  | _ => rfl

theorem st_nil (s : St) (t : Tm) : (⟨t, s.hp⟩ : St) = ⟨t, s.hp ++ []⟩ := by simp

/-- What an operation among others comes to: it yields v and makes the blocks os. H: the blocks as they are when all are done. -/
def FreeDoes (L : LoopTab) (rn : Option Nat) (P : Program) (o : Oper) (rd : Hp) (s : St) (g : Option Bool) (v : AV) (os : List Obj) : Prop :=
  ∀ (F : Base) (C : Cx) (H : Hp) (w : World) (a : Act) (ops : Array Oper), C.L = L → Mem F C H w → (∀ id, rd.at id ≠ .dead → H.at id = rd.at id) →
    (∀ i ∈ slotsOf o.op.operands.toList, ARep C H.length (look s.tm i) (a.tmps.getD i Go.undef)) → Region.wanted o (yielded ops a.tmps) = g.getD true →
    Frees C H s.hp.length os → Does rn P ops o a w fun u w' => ∃ C', Ext H.length C C' ∧ (∀ j, j < H.length → ¬ (s.hp.length ≤ j ∧ j < s.hp.length + os.length) → C'.μ j = C.μ j) ∧ Mem F C' H w' ∧ ARep C' H.length v u

/-- One operation, among others that may come before it or behind it. -/
theorem evOp_free {L : LoopTab} {rn : Option Nat} {x : X} {s s' : St} (hT : x.T.Ok P) (hcalls : ∀ f as h r, x.call f as h = some r → CallOk L x.T.fresh P f as h r) (he : evOp x rd true g o s = some s') :
    (∀ d, o.dst = some d → d < x.nt) ∧ ∃ v, ∃ os : List Obj, s' = ⟨putO s.tm o.dst v, s.hp ++ os⟩ ∧ FreeDoes L rn P o rd s g v os := by
  have hev : ∀ y ∈ o.op.operands.toList, evo s.tm y = evo (only s.tm (slotsOf o.op.operands.toList)) y := fun y hy => only_evo hy
  have hlk : ∀ {C : Cx} {n : Nat} {a : Act}, (∀ i ∈ slotsOf o.op.operands.toList, ARep C n (look s.tm i) (a.tmps.getD i Go.undef)) → ∀ i, ARep C n (look (only s.tm (slotsOf o.op.operands.toList)) i) (a.tmps.getD i Go.undef) := by
    intro C n a hr i
    unfold only
    rw [look_map]
    split
    · exact hr i (by assumption)
    · exact .undef _
  unfold evOp at he
  obtain ⟨_, h0, he⟩ := obind_inv he
  have hd : ∀ d, o.dst = some d → d < x.nt := fun d e => by
    have := chk_inv h0
    rw [e] at this
    simpa [dstOk] using this
  refine ⟨hd, ?_⟩
  generalize ownD x.T x.f o.dst = own at he
  cases hA : opA x.T own rd s.tm o.op with
  | some r =>
    rw [hA] at he
    simp only [ocase_some] at he
    obtain ⟨_, h1, he⟩ := obind_inv he
    have h1 := chk_inv h1
    cases he
    refine ⟨_, r.obj s.hp.length :: r.aux, rfl, fun F C H w a ops hL hm hrd ht hw hf => ?_⟩
    rw [opA_congr hev] at hA
    rw [opK_congr hev] at h1
    refine (A_does hT hm hrd (hlk ht) hw hA h1 hf).mono fun u w' hu => ?_
    obtain ⟨C', h2, h3, h4, h5⟩ := hu
    exact ⟨C', h2, fun j _ hj => h3 j (by simpa using hj), h4, h5⟩
  | none =>
  rw [hA] at he
  simp only [ocase_none] at he
  cases hV : opV x.T rd s.tm o.op with
  | some r =>
    rw [hV] at he
    simp only [ocase_some] at he
    obtain ⟨_, h1, he⟩ := obind_inv he
    have h1 := chk_inv h1
    cases he
    refine ⟨_, [], st_nil s _, fun F C H w a ops hL hm hrd ht hw _ => ?_⟩
    rw [opV_congr hev] at hV
    rw [opK_congr hev] at h1
    refine (V_does hT hm hrd (hlk ht) hw hV h1).mono fun u w' hu => ?_
    obtain ⟨rfl, h2⟩ := hu
    exact ⟨C, Ext.refl _ _, fun _ _ _ => rfl, hm, h2⟩
  | none =>
  rw [hV] at he
  simp only [ocase_none] at he
  obtain ⟨_, h1, he⟩ := obind_inv he
  have h1 := chk_inv h1
  have no : g.getD true = false → s' = ⟨putO s.tm o.dst (.gd false .undef), s.hp⟩ → ∃ v, ∃ os : List Obj, s' = ⟨putO s.tm o.dst v, s.hp ++ os⟩ ∧ FreeDoes L rn P o rd s g v os := by
    intro hg e
    subst e
    refine ⟨_, [], st_nil s _, fun F C H w a ops hL hm hrd ht hw _ => ?_⟩
    rw [hg] at hw
    exact does_not hw ⟨C, Ext.refl _ _, fun _ _ _ => rfl, hm, .gdF _⟩
  cases hC : calleeFn o.op with
  | some c =>
    obtain ⟨f, l⟩ := c
    rw [hC] at he
    simp only [ocase_some] at he
    obtain ⟨c, ho, hcc, rfl⟩ := calleeFn_inv hC
    cases hY : yieldOf s.tm f with
    | some id =>
      rw [hY] at he
      simp only [ocase_some, evYield] at he
      split at he
      · cases he
      · rename_i hg
        cases he
        exact no (by simpa using hg) rfl
    | none =>
    rw [hY] at he
    simp only [ocase_none] at he
    obtain ⟨⟨fi, cs⟩, hcal, he⟩ := obind_inv he
    simp only at hcal he
    have key : ∀ {C : Cx} {n : Nat} {a : Act}, (∀ i ∈ slotsOf o.op.operands.toList, ARep C n (look s.tm i) (a.tmps.getD i Go.undef)) → g.getD true = true → ∃ caps, a.eval f = .func (.func fi) #[] caps ∧ (c.args.map a.eval ++ caps).size = (evs s.tm c.args.toList ++ cs).length ∧
      ∀ k, k < (evs s.tm c.args.toList ++ cs).length → ARep C n ((evs s.tm c.args.toList ++ cs).getD k .undef) ((c.args.map a.eval ++ caps).getD k Go.undef) := fun hr hg => by
      have hev' := hev
      rw [hg, opK_congr hev] at h1
      rw [ho] at hev' h1
      have e1 : evs s.tm c.args.toList = evs (only s.tm (slotsOf o.op.operands.toList)) c.args.toList := by
        rw [ho]
        exact evs_congr fun y hy => hev' y (by simp only [Op.operands, Call.operands, Array.toList_append, List.mem_append]; exact .inr hy)
      have e2 : calleeOf s.tm f = calleeOf (only s.tm (slotsOf o.op.operands.toList)) f := by
        rw [ho]
        exact calleeOf_congr (hev' f (by simp [Op.operands, Call.operands, hcc]))
      rw [e2] at hcal
      rw [e1]
      rw [ho] at hcal hr ⊢
      exact call_args (ht := by
        have := hlk (by rw [ho]; exact hr)
        rw [ho] at this
        exact this) hcc (by simpa using h1) hcal
    generalize evs s.tm c.args.toList ++ cs = as at he key
    change (if (toPs ((bsOf (x.T.muts fi) rd as).flatMap AV.cells)).isSome = true then _ else _) = some s' at he
    split at he
    · rename_i hp
      cases hcl : x.call fi (bsOf (x.T.muts fi) rd as) [] with
      | none =>
        change ocase (x.call fi (bsOf (x.T.muts fi) rd as) []) _ _ = some s' at he
        rw [hcl] at he
        simp only [ocase_none] at he
        split at he
        · cases he
        · rename_i hg
          cases he
          exact no (by simpa using hg) rfl
      | some r =>
        change ocase (x.call fi (bsOf (x.T.muts fi) rd as) []) _ _ = some s' at he
        rw [hcl] at he
        simp only [ocase_some] at he
        have hok := hcalls _ _ _ _ hcl
        split at he
        · rename_i hr0
          have hr0' : r.2 = [] := List.eq_nil_of_length_eq_zero hr0
          by_cases hgd : g.getD true = true
          case neg =>
            have hgf : g.getD true = false := by simpa using hgd
            split at he
            · cases he
              refine ⟨_, [], st_nil s _, fun F C H w a ops hL hm hrd ht hw _ => ?_⟩
              rw [hgf] at hw
              exact does_not hw ⟨C, Ext.refl _ _, fun _ _ _ => rfl, hm, mkg_not hgf⟩
            · cases he
              exact no hgf rfl
          have both : s' = ⟨putO s.tm o.dst (mkg g r.1), s.hp⟩ ∧ ((scalar r.1 = true ∨ x.T.fresh fi = true) ∨ idsOf (x.T.muts fi) as = []) := by
            split at he
            · rename_i hsc; cases he; exact ⟨rfl, .inl hsc⟩
            · split at he
              · cases he
              · rename_i hn
                cases he
                have e : idsOf (x.T.muts fi) as = [] := by
                  by_cases e : idsOf (x.T.muts fi) as = []
                  · exact e
                  · exact absurd ⟨trivial, e⟩ hn
                refine ⟨?_, .inr e⟩
                show (⟨_, share s.hp (idsOf (x.T.muts fi) as)⟩ : St) = _
                rw [e]; rfl
          obtain ⟨rfl, hids⟩ := both
          refine ⟨_, [], st_nil s _, fun F C H w a ops hL hm hrd ht hw _ => ?_⟩
          cases hg : g.getD true with
          | false =>
            rw [hg] at hw
            exact does_not hw ⟨C, Ext.refl _ _, fun _ _ _ => rfl, hm, mkg_not hg⟩
          | true =>
            obtain ⟨caps, hv, hs, hr⟩ := key ht hg
            rw [hg] at hw
            refine does_enter (noDefer_C ho) hw (run_call ho hcc hv hok.fn) ((call_pure hL hm hrd hs hr hp hok).mono fun e w' he => ?_)
            cases e with
            | returned u =>
              obtain ⟨C', h2, h3, h4, h5⟩ := pure_done hm hr0' he
              have e : (if scalar r.1 = true ∨ x.T.fresh fi = true then H else share H (idsOf (x.T.muts fi) as)) = H := by
                split
                · rfl
                · rename_i hsc
                  rcases hids with hids | hids
                  · exact absurd hids hsc
                  · rw [hids]; rfl
              rw [e] at h4
              exact ⟨C', h2, fun j hj _ => h3 j hj, h4, mkg_rep hg h5⟩
            | panicked _ => exact he.elim
            | outgrown => exact he.elim
        · split at he
          · rw [if_neg (by simp)] at he
            cases he
          · rename_i hg
            cases he
            exact no (by simpa using hg) rfl
    · split at he
      · cases he
      · rename_i hg
        cases he
        exact no (by simpa using hg) rfl
  | none =>
    rw [hC] at he
    simp only [ocase_none] at he
    split at he
    · cases he
    · rename_i hg
      cases he
      exact no (by simpa using hg) rfl

end
end Go.En
set_option linter.unusedSimpArgs false
set_option linter.unusedVariables false
namespace Go.En
open Go.RowKit

/-- Where a call stands; rn: in a round of this loop. -/
structure At where
  F : Base
  C0 : Cx
  n0 : Nat
  nt : Nat
  rn : Option Nat

/-- The marks of ranges over functions among a frame's deferred calls. -/
def Marks (w0 : World) (C : Cx) : List Deferred → Prop
  | [] => True
  | d :: r => (∃ D, d = { target := .collected D, args := #[] } ∧ C.K D = some (.deferred (some [])) ∧ w0.heap.size ≤ D ∧ ∀ d' ∈ r, d' ≠ { target := .collected D, args := #[] }) ∧ Marks w0 C r

theorem Marks.mono {w0 : World} {C C' : Cx} (h : ∀ B o, C.K B = some o → C'.K B = some o) : ∀ {ds : List Deferred}, Marks w0 C ds → Marks w0 C' ds
  | [], _ => trivial
  | d :: r, ⟨⟨D, h1, h2, h3⟩, h4⟩ => ⟨⟨D, h1, h _ _ h2, h3⟩, Marks.mono h h4⟩

structure Rel (A : At) (C : Cx) (s : St) (a : Act) (w : World) : Prop where
  size : a.tmps.size = A.nt
  defers : Marks A.F.w0 C a.defers
  tm : ∀ i, ARep C s.hp.length (look s.tm i) (a.tmps.getD i Go.undef)
  mem : Mem A.F C s.hp w
  ext : Ext A.n0 A.C0 C
  len : A.n0 ≤ s.hp.length

def Stands (A : At) (s : St) (a : Act) (w : World) : Prop := ∃ C, Rel A C s a w

/-- What is known of calls and of loops' yields. -/
structure Known (L : LoopTab) (P : Program) (x : X) : Prop where
  T : x.T.Ok P
  calls : ∀ f as h r, x.call f as h = some r → CallOk L x.T.fresh P f as h r
  yields : ∀ id as h r, x.yield id as h = some r → YieldOk L P id as h r

section
variable {P : Program} {T : Tab} {F : Base} {w w' : World} {C C' : Cx} {h rd : Hp} {n : Nat} {tm tm' : Tm} {A : At} {L : LoopTab}
variable {ops : Array Oper} {o : Oper} {a : Act} {g : Option Bool}

/-- One operation, those before it done. -/
theorem op_step {x : X} {s s' : St} (hK : Known L P x) (hL : A.C0.L = L) (hnt : x.nt = A.nt) (hg : guardOf ops.toList s.tm o.guard = some g) (he : evOp x s.hp false g o s = some s')
    (hr : Rel A C s a w) : Does A.rn P ops o a w fun u w' => Stands A s' (a.put o.dst u) w' := by
  obtain ⟨h1, h2, v, h3, h4⟩ := evOp_seq (rn := A.rn) (ops := ops) hK.T hK.calls hK.yields (hr.ext.L.trans hL) he hr.mem hr.tm (guard_wanted hg rfl (fun i _ => hr.tm i))
  refine h4.mono fun u w' hu => ?_
  obtain ⟨C', h5, h6, h7⟩ := hu
  refine ⟨C', by rw [put_size]; exact hr.size, by rw [put_defers]; exact hr.defers.mono h5.K, fun i => ?_, h6, hr.ext.trans (h5.le hr.len), Nat.le_trans hr.len h2⟩
  rw [h3, look_putO, put_getD a o.dst u i (fun j e => by rw [hr.size, ← hnt]; exact h1 j e)]
  split
  · exact h7
  · exact (hr.tm i).mono h5 h2

theorem wpOp_does {rn : Option Nat} {Q : Exit → Act → World → Prop} {K : Act → World → Prop} {i : Nat} {R : Value → World → Prop} (ho : ops[i]? = some o) (hd : Does rn P ops o a w R) (hk : ∀ u w', R u w' → K (a.put o.dst u) w') : wpOpIn (FW rn) 0 P ops Q i K a w := by
  have := hd Q K hk
  unfold wpOpIn
  simp only [ho]
  exact this

theorem wpOpsIn_cons' {F : Fence} {n : Nat} {Q : Exit → Act → World → Prop} (i : Nat) (rest : List Nat) (a : Act) (w : World) : wpOpsIn F n P ops Q (i :: rest) a w = wpOpIn F n P ops Q i (wpOpsIn F n P ops Q rest) a w := by
  cases h : ops[i]? <;> simp [wpOpsIn, wpOpIn, h]

theorem evSeq_sound {x : X} (hK : Known L P x) (hL : A.C0.L = L) (hnt : x.nt = A.nt) {Q : Exit → Act → World → Prop} {s' : St} :
    ∀ (r : List Oper) (k : Nat) (s : St) (a : Act) (w : World), ops.toList.drop k = r → evSeq x ops.toList r s = some s' → Stands A s a w → (∀ a' w', Stands A s' a' w' → Q .normal a' w') → wpOpsIn (FW A.rn) 0 P ops Q (List.range' k r.length) a w
  | [], k, s, a, w, _, he, hs, hq => by
    simp [evSeq] at he
    subst he
    simpa [wpOpsIn] using hq a w hs
  | o :: r, k, s, a, w, hl, he, ⟨C, hr⟩, hq => by
    simp only [evSeq] at he
    obtain ⟨g, hg, he⟩ := obind_inv he
    obtain ⟨s1, h1, he⟩ := obind_inv he
    have hk : k < ops.toList.length := by
      rcases Nat.lt_or_ge k ops.toList.length with h | h
      · exact h
      · rw [List.drop_eq_nil_of_le h] at hl; cases hl
    have ho : ops[k]? = some o := by
      have := congrArg List.head? hl
      rw [List.head?_drop] at this
      simpa using this
    have hl' : ops.toList.drop (k + 1) = r := by
      have := congrArg List.tail hl
      rw [List.tail_drop] at this
      simpa using this
    rw [List.length_cons, List.range'_succ, wpOpsIn_cons']
    exact wpOp_does ho (op_step hK hL hnt hg h1 hr) (fun u w' hu => evSeq_sound hK hL hnt r (k + 1) s1 _ w' hl' he hu hq)

-- ---------------------------------------------------------------- regions that draw
theorem ancsFrom_spec : ∀ (r : List Oper) (acc : List (List Nat)) (l : List Oper), l.length = acc.length →
    (∀ (j : Nat) (o : Oper), l[j]? = some o → ∀ i ∈ (acc[j]?).getD [], ∃ e ∈ o.after.toList, bindsAny e = true ∧ (i = e.on ∨ i ∈ (acc[e.on]?).getD [])) →
    (ancsFrom acc r).length = l.length + r.length ∧
    ∀ (j : Nat) (o : Oper), (l ++ r)[j]? = some o → ∀ i ∈ ((ancsFrom acc r)[j]?).getD [], ∃ e ∈ o.after.toList, bindsAny e = true ∧ (i = e.on ∨ i ∈ ((ancsFrom acc r)[e.on]?).getD [])
  | [], acc, l, hl, h => by simpa [ancsFrom, hl] using h
  | o :: r, acc, l, hl, h => by
    have grow : ∀ (k i : Nat), i ∈ (acc[k]?).getD [] → i ∈ ((acc ++ [befores acc o])[k]?).getD [] := fun k i hi => by
      cases e : acc[k]? with
      | none => rw [e] at hi; simp at hi
      | some v =>
        have := (List.getElem?_eq_some_iff.1 e).1
        rw [List.getElem?_append_left this, e]
        rw [e] at hi; exact hi
    have := ancsFrom_spec r (acc ++ [befores acc o]) (l ++ [o]) (by simp [hl]) (fun j o' hj i hi => by
      rcases Nat.lt_or_ge j l.length with hjl | hjl
      · rw [List.getElem?_append_left hjl] at hj
        rw [List.getElem?_append_left (by omega)] at hi
        obtain ⟨e, h1, h2, h3⟩ := h j o' hj i hi
        exact ⟨e, h1, h2, h3.imp id (grow _ _)⟩
      · have hj0 : j = l.length := by
          have := (List.getElem?_eq_some_iff.1 hj).1
          simp at this; omega
        subst hj0
        have ho : o' = o := by simpa using hj.symm
        subst ho
        rw [hl, List.getElem?_append_right (Nat.le_refl _)] at hi
        simp only [Nat.sub_self, List.getElem?_cons_zero, Option.getD_some, befores, List.mem_flatMap, List.mem_filter, List.mem_cons] at hi
        obtain ⟨e, ⟨h1, h2⟩, h3⟩ := hi
        exact ⟨e, h1, h2, h3.imp id (grow _ _)⟩)
    simpa [ancsFrom, List.append_assoc, Nat.add_assoc, Nat.add_comm 1] using this

theorem ancs_spec (l : List Oper) {j : Nat} {o : Oper} (ho : l[j]? = some o) {i : Nat} (hi : i ∈ ((ancs l)[j]?).getD []) :
    ∃ e ∈ o.after.toList, bindsAny e = true ∧ (i = e.on ∨ i ∈ ((ancs l)[e.on]?).getD []) := by
  have := (ancsFrom_spec l [] [] rfl (fun j o h => by simp at h)).2 j o (by simpa using ho) i hi
  exact this

structure Draw (l : List Oper) (sq : List Nat) (lt : Option (Nat × Nat × List Nat)) : Prop where
  late : ∀ k wid an, lt = some (k, wid, an) → ∀ i ∈ an, i ∈ ((ancs l)[k]?).getD []
  dsts : apartAll (l.filterMap (·.dst)) = true
  seq : ∀ j ∈ sq, isSeq (ancs l) l.length j = true
  before : ∀ (j : Nat) (o : Oper), l[j]? = some o → ∀ e ∈ o.after.toList, bindsAny e = true → e.on < j
  apart : ∀ (j i : Nat) (b a : Oper), i < j → l[j]? = some b → l[i]? = some a → i ∈ ((ancs l)[j]?).getD [] ∨ apartB l a b = true

theorem drawOk_spec {l : List Oper} {sq : List Nat} {lt : Option (Nat × Nat × List Nat)} (h : drawOk l sq lt = true) : Draw l sq lt := by
  simp only [drawOk, Bool.and_eq_true, List.all_eq_true, List.mem_range] at h
  obtain ⟨⟨h0, h1, h2⟩, h3⟩ := h
  refine ⟨fun k wid an e i hi => ?_, h1, h2, fun j o ho e he hb => ?_, fun j i b a hij hj hi => ?_⟩
  · subst e
    simp only [List.all_eq_true] at h0
    simpa using h0 i hi
  · have hj := (List.getElem?_eq_some_iff.1 ho).1
    have h4 := h3 j hj
    rw [ho] at h4
    simp only [Bool.and_eq_true, List.all_eq_true, List.mem_filter] at h4
    simpa using h4.1 e ⟨he, hb⟩
  · have hjl := (List.getElem?_eq_some_iff.1 hj).1
    have h4 := h3 j hjl
    rw [hj] at h4
    simp only [Bool.and_eq_true, List.all_eq_true, List.mem_range] at h4
    have h5 := h4.2 i hij
    rw [hi] at h5
    simpa using h5

/-- All that must come before an operation that may come now is listed. -/
theorem anc_listed {l : List Oper} {sq : List Nat} {lt : Option (Nat × Nat × List Nat)} (hd : Draw l sq lt) {L : Nat → Prop} (hL : ∀ (j : Nat) (o : Oper), l[j]? = some o → L j → ∀ e ∈ o.after.toList, bindsAny e = true → L e.on) :
    ∀ (j : Nat) (o : Oper), l[j]? = some o → (∀ e ∈ o.after.toList, bindsAny e = true → L e.on) → ∀ i ∈ ((ancs l)[j]?).getD [], L i := by
  intro j
  induction j using Nat.strongRecOn with
  | ind j ih =>
    intro o ho hr i hi
    obtain ⟨e, h1, h2, h3⟩ := ancs_spec l ho hi
    have h4 := hr e h1 h2
    rcases h3 with h3 | h3
    · rw [h3]; exact h4
    · have h5 := hd.before j o ho e h1 h2
      have hjl := (List.getElem?_eq_some_iff.1 ho).1
      have hel : l[e.on]? = some l[e.on] := List.getElem?_eq_getElem (by omega)
      exact ih e.on h5 _ hel (hL _ _ hel h4) i h3

theorem apartAll_spec : ∀ {l : List Oper}, apartAll (l.filterMap (·.dst)) = true → ∀ (i j : Nat) (a b : Oper) (d : Nat), l[i]? = some a → l[j]? = some b → a.dst = some d → b.dst = some d → i = j
  | [], _, i, j, a, b, d, hi, _, _, _ => by simp at hi
  | o :: l, h, i, j, a, b, d, hi, hj, ha, hb => by
    have tail : apartAll (l.filterMap (·.dst)) = true := by
      cases e : o.dst with
      | none => simpa [List.filterMap_cons, e] using h
      | some d' => simp [List.filterMap_cons, e, apartAll] at h; exact h.2
    have no : ∀ (k : Nat) (c : Oper), l[k]? = some c → c.dst = some d → o.dst ≠ some d := fun k c hk hc e => by
      simp [List.filterMap_cons, e, apartAll] at h
      exact h.1 c (List.mem_of_getElem? hk) hc
    cases i with
    | zero =>
      cases j with
      | zero => rfl
      | succ j =>
        simp at hi hj
        subst hi
        exact absurd ha (no j b hj hb)
    | succ i =>
      cases j with
      | zero =>
        simp at hi hj
        subst hj
        exact absurd hb (no i a hi ha)
      | succ j =>
        simp at hi hj
        rw [apartAll_spec tail i j a b d hi hj ha hb]

end
end Go.En
set_option linter.unusedSimpArgs false
namespace Go.En

theorem at_lt {h : Hp} {id : Nat} (h1 : h.at id ≠ .dead) : id < h.length := by
  rcases Nat.lt_or_ge id h.length with h2 | h2
  · exact h2
  · exact absurd (by simp [Hp.at, List.getElem?_eq_none h2]) h1
theorem at_get {h : Hp} {id : Nat} (h1 : id < h.length) : h[id]? = some (h.at id) := by
  simp [Hp.at, List.getElem?_eq_getElem h1]
theorem at_set {h : Hp} {id j : Nat} {o : Obj} (h1 : id < h.length) : Hp.at (h.set id o) j = if j = id then o else h.at j := by
  simp only [Hp.at, List.getElem?_set]
  by_cases e : id = j
  · subst e; simp [h1]
  · simp [e, Ne.symm e]
theorem set_at {h : Hp} {id : Nat} (h1 : id < h.length) : h.set id (h.at id) = h := by
  apply List.ext_getElem?
  intro j
  rw [List.getElem?_set]
  by_cases e : id = j
  · subst e; rw [if_pos rfl, if_pos h1, at_get h1]
  · rw [if_neg e]
theorem hp_ext {h h' : Hp} (hl : h.length = h'.length) (ha : ∀ id, id < h.length → h.at id = h'.at id) : h = h' := by
  apply List.ext_getElem?
  intro j
  rcases Nat.lt_or_ge j h.length with h1 | h1
  · rw [at_get h1, at_get (by omega), ha j h1]
  · rw [List.getElem?_eq_none h1, List.getElem?_eq_none (by omega)]

theorem pic_ext {h H : Hp} {x : AV} {xs : List PV} (hag : ∀ id, id < h.length → H.at id = h.at id) (hp : pic h x = some xs) : pic H x = some xs := by
  unfold pic at hp ⊢
  split at hp
  · exact hp
  · exact hp
  · rename_i id g off len
    have : h.at id ≠ .dead := by
      intro e
      rw [e] at hp
      cases hp
    rw [hag id (at_lt this)]
    exact hp
  · cases hp

theorem storeW_ext {T : Tab} {h H h' : Hp} {t wid : Nat} {a v : AV} (hid : (match a with | .ref id _ => some id | .elt id _ _ _ => some id | _ => none) = some wid) (hag : ∀ id, id < h.length → H.at id = h.at id) (he : storeW T h t a v = some h') :
    ∃ o, h' = h.set wid o ∧ storeW T H t a v = some (H.set wid o) := by
  unfold storeW at he ⊢
  split at he
  · cases he
  · rename_i i hi
    split at he
    · rename_i hc
      split at he
      · rename_i id off
        cases hid
        split at he
        · rename_i cs ho
          split at he
          · rename_i hc2
            cases he
            have hat : H.at wid = .box cs := by rw [hag wid (at_lt (by rw [ho]; simp)), ho]
            refine ⟨_, rfl, ?_⟩
            simp only [hi, if_pos hc, hat, if_pos hc2]
          · cases he
        · cases he
      · rename_i id g j off
        cases hid
        split at he
        · rename_i g' sz es ps ho hps
          split at he
          · rename_i hc2
            simp only [Option.bind_eq_some_iff, Option.map_eq_some_iff] at he
            obtain ⟨x, h1, y, h2, rfl⟩ := he
            have hat : H.at wid = .arr g' sz false es := by rw [hag wid (at_lt (by rw [ho]; simp)), ho]
            refine ⟨_, rfl, ?_⟩
            simp only [hi, if_pos hc, hat, hps, if_pos hc2, h1, h2, Option.bind_some, Option.map_some]
          · cases he
        · cases he
      · cases he
    · cases he

/-- A write to a block is the same write where more blocks stand. -/
theorem opW_ext {T : Tab} {h H : Hp} {tm : Tm} {op : Op} {r : Hp × AV} {wid : Nat} (hid : lateId tm op = some wid) (hw : wid < h.length) (hlen : h.length ≤ H.length) (hag : ∀ id, id < h.length → H.at id = h.at id) (he : opW T h tm op = some r) :
    ∃ o, r.1 = h.set wid o ∧ opW T H tm op = some (H.set wid o, r.2) := by
  cases op <;> simp only [lateId] at hid <;> try (cases hid; done)
  case store t a v =>
    simp only [opW, Option.map_eq_some_iff] at he
    obtain ⟨h', h1, rfl⟩ := he
    obtain ⟨o, h2, h3⟩ := storeW_ext (wid := wid) (a := uv (evo tm a)) (by
      generalize uv (evo tm a) = q at hid ⊢
      cases q <;> first | exact hid | cases hid) hag h1
    exact ⟨o, h2, by simp only [opW, h3, Option.map_some]⟩
  case call c =>
    obtain ⟨callee, args, argTypes⟩ := c
    cases callee <;> simp only at hid <;> try (cases hid; done)
    rename_i b
    cases b <;> simp only at hid <;> try (cases hid; done)
    split at hid
    · rename_i id g off len x hx
      cases hid
      simp only [opW, hx] at he ⊢
      split at he
      · rename_i q1 q2 t t' e1 e2
        cases e1
        split at he
        · rename_i g' sz sh es e u e' xs ho ee ee' hp
          rw [hag wid hw, ho, ee, ee', pic_ext hag hp]
          split at he
          · rename_i hc
            simp only [if_pos hc]
            split at he
            · rename_i hc2
              simp only [if_pos hc2]
              split at he
              · rename_i hc3
                cases he
                refine ⟨h.at wid, (set_at hw).symm, ?_⟩
                rw [if_pos hc3, ← hag wid hw, set_at (by omega)]
              · rename_i hc3
                cases he
                exact ⟨_, rfl, by rw [if_neg hc3]⟩
            · rename_i hc2
              simp only [if_neg hc2]
              split at he
              · rename_i hc3
                cases he
                exact ⟨_, rfl, by rw [if_pos hc3]⟩
              · cases he
          · cases he
        · cases he
      · cases he
    · cases hid
end Go.En
set_option linter.unusedSimpArgs false
set_option linter.unusedSectionVars false
set_option linter.unusedVariables false
namespace Go.En
open Go.RowKit

/-- The states of a region gone through in the order of its text. -/
def TStep (x : X) (l : List Oper) (sq : List Nat) (lt : Option (Nat × Nat × List Nat)) (σ : Nat → St) (ρ : Nat → Hp) (j : Nat) (o : Oper) : Prop :=
  ∃ g, guardOf l (σ j).tm o.guard = some g ∧
    ((j ∈ sq ∧ evOp x (σ j).hp false g o (σ j) = some (σ (j + 1)) ∧ ρ (j + 1) = (σ (j + 1)).hp) ∨
     (j ∉ sq ∧ ρ (j + 1) = ρ j ∧ ((∃ wid, isLate lt j = some wid ∧ evLate x wid g o (σ j) = some (σ (j + 1))) ∨
       (isLate lt j = none ∧ evOp x (lateRd lt j (ρ j)) true g o (σ j) = some (σ (j + 1)) ∧ lateMk lt j (σ j).hp.length (σ (j + 1)).hp.length = true))))

theorem evFree_trace {x : X} {l : List Oper} {sq : List Nat} {lt : Option (Nat × Nat × List Nat)} {s' : St} : ∀ (r : List Oper) (k : Nat) (rd : Hp) (s : St), l.drop k = r → evFree x l sq lt r k rd s = some s' →
    ∃ (σ : Nat → St) (ρ : Nat → Hp), σ k = s ∧ ρ k = rd ∧ σ (k + r.length) = s' ∧ ∀ (j : Nat) (o : Oper), k ≤ j → l[j]? = some o → TStep x l sq lt σ ρ j o
  | [], k, rd, s, hl, he => by
    simp [evFree] at he
    subst he
    refine ⟨fun _ => s, fun _ => rd, rfl, rfl, rfl, fun j o hj ho => ?_⟩
    have := (List.getElem?_eq_some_iff.1 ho).1
    have := List.drop_eq_nil_iff.1 hl
    omega
  | o :: r, k, rd, s, hl, he => by
    simp only [evFree] at he
    obtain ⟨g, hg, he⟩ := obind_inv he
    have hk : k < l.length := by
      rcases Nat.lt_or_ge k l.length with h | h
      · exact h
      · rw [List.drop_eq_nil_of_le h] at hl; cases hl
    have ho : l[k]? = some o := by
      have := congrArg List.head? hl
      rw [List.head?_drop] at this
      simpa using this
    have hl' : l.drop (k + 1) = r := by
      have := congrArg List.tail hl
      rw [List.tail_drop] at this
      simpa using this
    have key : ∀ (s1 : St) (rd1 : Hp), evFree x l sq lt r (k + 1) rd1 s1 = some s' → ((k ∈ sq ∧ evOp x s.hp false g o s = some s1 ∧ rd1 = s1.hp) ∨
          (k ∉ sq ∧ rd1 = rd ∧ ((∃ wid, isLate lt k = some wid ∧ evLate x wid g o s = some s1) ∨ (isLate lt k = none ∧ evOp x (lateRd lt k rd) true g o s = some s1 ∧ lateMk lt k s.hp.length s1.hp.length = true)))) →
        ∃ (σ : Nat → St) (ρ : Nat → Hp), σ k = s ∧ ρ k = rd ∧ σ (k + (o :: r).length) = s' ∧ ∀ (j : Nat) (o : Oper), k ≤ j → l[j]? = some o → TStep x l sq lt σ ρ j o := by
      intro s1 rd1 h1 h2
      obtain ⟨σ, ρ, h3, h4, h5, h6⟩ := evFree_trace r (k + 1) rd1 s1 hl' h1
      refine ⟨fun j => if j = k then s else σ j, fun j => if j = k then rd else ρ j, by simp, by simp, ?_, fun j o' hj ho' => ?_⟩
      · simp only [List.length_cons]
        rw [if_neg (by omega), ← h5, show k + (r.length + 1) = k + 1 + r.length from by omega]
      · by_cases hjk : j = k
        · subst hjk
          rw [ho] at ho'; cases ho'
          refine ⟨g, by simpa using hg, ?_⟩
          simp only [if_true, show j + 1 ≠ j from by omega, if_false, h3, h4]
          exact h2
        · have := h6 j o' (by omega) ho'
          unfold TStep at this ⊢
          simp only [hjk, if_false, show j + 1 ≠ k from by omega]
          exact this
    split at he
    · rename_i hs
      obtain ⟨s1, h1, he⟩ := obind_inv he
      exact key s1 _ he (.inl ⟨by simpa using hs, h1, rfl⟩)
    · rename_i hs
      cases hi : isLate lt k with
      | some wid =>
        rw [hi] at he
        simp only [ocase_some] at he
        obtain ⟨s1, h1, he⟩ := obind_inv he
        exact key s1 _ he (.inr ⟨by simpa using hs, rfl, .inl ⟨wid, hi, h1⟩⟩)
      | none =>
        rw [hi] at he
        simp only [ocase_none] at he
        obtain ⟨s1, h1, he⟩ := obind_inv he
        obtain ⟨_, h2, he⟩ := obind_inv he
        exact key s1 _ he (.inr ⟨by simpa using hs, rfl, .inr ⟨hi, h1, chk_inv h2⟩⟩)

/-- A late write, as it is evaluated. -/
theorem evLate_inv {x : X} {wid : Nat} {g : Option Bool} {o : Oper} {s s' : St} (he : evLate x wid g o s = some s') :
    (∀ d, o.dst = some d → d < x.nt) ∧ wid < s.hp.length ∧ lateId s.tm o.op = some wid ∧ g.getD true = true ∧ opK true s.tm o.op = true ∧ ∃ r, opW x.T s.hp s.tm o.op = some r ∧ s' = ⟨putO s.tm o.dst (mkg g r.2), r.1⟩ := by
  unfold evLate at he
  split at he
  · rename_i hc
    obtain ⟨h1, h2, h3⟩ := hc
    unfold evOp at he
    obtain ⟨_, h0, he⟩ := obind_inv he
    have hd : ∀ d, o.dst = some d → d < x.nt := fun d e => by
      have := chk_inv h0
      rw [e] at this
      simpa [dstOk] using this
    have hA : opA x.T (ownD x.T x.f o.dst) s.hp s.tm o.op = none ∧ opV x.T s.hp s.tm o.op = none ∧ calleeFn o.op = none := by
      generalize o.op = op at h1
      cases op <;> simp only [lateId] at h1 <;> try (cases h1; done)
      case store t a v => exact ⟨rfl, rfl, rfl⟩
      case call c =>
        obtain ⟨callee, args, argTypes⟩ := c
        cases callee <;> simp only at h1 <;> try (cases h1; done)
        rename_i b
        cases b <;> simp only at h1 <;> try (cases h1; done)
        refine ⟨?_, rfl, rfl⟩
        split at h1
        · rename_i id gg off len y hy
          obtain ⟨u, v, rfl, e1, e2⟩ := evs_two hy
          simp only [opA]
          split
          · rename_i q1 q2 t t' e3 e4
            simp only [List.cons.injEq, and_true] at e3
            obtain ⟨rfl, rfl⟩ := e3
            rw [e1]
          · rfl
        · cases h1
    rw [hA.1, hA.2.1, hA.2.2] at he
    simp only [ocase_none] at he
    obtain ⟨_, hk, he⟩ := obind_inv he
    have hk := chk_inv hk
    rw [if_pos h3, if_neg (by simp)] at he
    obtain ⟨r, hr, he⟩ := obind_inv he
    cases he
    refine ⟨hd, h2, h1, h3, by simpa [h3] using hk, r, hr, rfl⟩
  · cases he

theorem late_one {lt : Option (Nat × Nat × List Nat)} {j j' wid wid' : Nat} (h : isLate lt j = some wid) (h' : isLate lt j' = some wid') : j = j' ∧ wid = wid' := by
  unfold isLate at h h'
  cases lt with
  | none => cases h
  | some q =>
    obtain ⟨k, w, an⟩ := q
    simp only at h h'
    split at h
    · split at h'
      · cases h; cases h'; rename_i e1 e2; exact ⟨by omega, rfl⟩
      · cases h'
    · cases h

/-- A stretch of a region between two operations that stand between all others. -/
structure Seg (x : X) (l : List Oper) (sq : List Nat) (σ : Nat → St) (ρ : Nat → Hp) (p q : Nat) : Prop where
  le : p ≤ q
  top : q ≤ l.length
  free : ∀ j, p ≤ j → j < q → j ∉ sq
  stop : q = l.length ∨ q ∈ sq
  rd : ρ p = (σ p).hp

section
variable {P : Program} {x : X} {A : At} {LT : LoopTab} {ops : Array Oper} {sq : List Nat} {lt : Option (Nat × Nat × List Nat)} {σ : Nat → St} {ρ : Nat → Hp} {p q : Nat}

theorem Seg.exists (l : List Oper) : ∀ (n p : Nat), p + n = l.length → ρ p = (σ p).hp → ∃ q, Seg x l sq σ ρ p q
  | 0, p, h, hr => ⟨p, Nat.le_refl _, by omega, fun j h1 h2 => by omega, .inl (by omega), hr⟩
  | n + 1, p, h, hr => by
    by_cases hp : p ∈ sq
    · exact ⟨p, Nat.le_refl _, by omega, fun j h1 h2 => by omega, .inr hp, hr⟩
    · -- the next
      have : ∀ (m k : Nat), k + m = l.length → (∀ j, p ≤ j → j < k → j ∉ sq) → p ≤ k → ∃ q, Seg x l sq σ ρ p q := by
        intro m
        induction m with
        | zero => exact fun k hk hf hpk => ⟨k, hpk, by omega, hf, .inl (by omega), hr⟩
        | succ m ih =>
          intro k hk hf hpk
          by_cases hks : k ∈ sq
          · exact ⟨k, hpk, by omega, hf, .inr hks, hr⟩
          · exact ih (k + 1) (by omega) (fun j h1 h2 => by
              rcases Nat.lt_or_ge j k with h3 | h3
              · exact hf j h1 h3
              · have : j = k := by omega
                subst this; exact hks) (by omega)
      exact this (n + 1) p h (fun j h1 h2 => by omega) (Nat.le_refl _)

variable (hK : Known LT P x)
variable (htr : ∀ (j : Nat) (o : Oper), ops.toList[j]? = some o → TStep x ops.toList sq lt σ ρ j o)
include hK htr

theorem seg_rd (hs : Seg x ops.toList sq σ ρ p q) : ∀ d, p + d ≤ q → ρ (p + d) = (σ p).hp
  | 0, _ => hs.rd
  | d + 1, h => by
    have hlt : p + d < ops.toList.length := by have := hs.top; omega
    obtain ⟨g, _, h2⟩ := htr (p + d) _ (List.getElem?_eq_getElem hlt)
    rcases h2 with ⟨h2, _⟩ | ⟨_, h3, _⟩
    · exact absurd h2 (hs.free _ (by omega) (by omega))
    · rw [show p + (d + 1) = p + d + 1 from by omega, h3]
      exact seg_rd hs d (by omega)

/-- An operation of the stretch. -/
theorem seg_op (hs : Seg x ops.toList sq σ ρ p q) {j : Nat} {o : Oper} (hj : p ≤ j) (hq : j < q) (ho : ops.toList[j]? = some o) : ∃ g, guardOf ops.toList (σ j).tm o.guard = some g ∧
    ((∃ wid, isLate lt j = some wid ∧ evLate x wid g o (σ j) = some (σ (j + 1))) ∨ (isLate lt j = none ∧ evOp x (lateRd lt j (σ p).hp) true g o (σ j) = some (σ (j + 1)) ∧ lateMk lt j (σ j).hp.length (σ (j + 1)).hp.length = true)) := by
  obtain ⟨g, h1, h2⟩ := htr j o ho
  rcases h2 with ⟨h2, _⟩ | ⟨_, _, h3⟩
  · exact absurd h2 (hs.free _ hj hq)
  · refine ⟨g, h1, ?_⟩
    have := seg_rd hK htr hs (j - p) (by omega)
    rw [show p + (j - p) = j from by omega] at this
    rw [← this]; exact h3

theorem seg_next (hs : Seg x ops.toList sq σ ρ p q) {j : Nat} (hj : p ≤ j) (hq : j < q) : ∃ o, ops.toList[j]? = some o ∧ ∃ v, (σ (j + 1)).tm = putO (σ j).tm o.dst v ∧
    ((isLate lt j = none ∧ ∃ os : List Obj, (σ (j + 1)).hp = (σ j).hp ++ os) ∨ ∃ wid ob, isLate lt j = some wid ∧ wid < (σ j).hp.length ∧ (σ (j + 1)).hp = (σ j).hp.set wid ob) := by
  have hlt : j < ops.toList.length := by have := hs.top; omega
  refine ⟨_, List.getElem?_eq_getElem hlt, ?_⟩
  obtain ⟨g, _, h2⟩ := seg_op hK htr hs hj hq (List.getElem?_eq_getElem hlt)
  rcases h2 with ⟨wid, h2, h3⟩ | ⟨h2, h3, _⟩
  · obtain ⟨_, h5, h6, _, _, r, h7, h8⟩ := evLate_inv h3
    obtain ⟨ob, h9, _⟩ := opW_ext (H := (σ j).hp) h6 h5 (Nat.le_refl _) (fun _ _ => rfl) h7
    refine ⟨_, by rw [h8], .inr ⟨wid, ob, h2, h5, by rw [h8, h9]⟩⟩
  · obtain ⟨_, v, os, h4, _⟩ := evOp_free (rn := none) hK.T hK.calls h3
    exact ⟨v, by rw [h4], .inl ⟨h2, os, by rw [h4]⟩⟩

theorem seg_len (hs : Seg x ops.toList sq σ ρ p q) {i : Nat} (hi : p ≤ i) : ∀ d, i + d ≤ q → (σ i).hp.length ≤ (σ (i + d)).hp.length
  | 0, _ => Nat.le_refl _
  | d + 1, h => by
    have ih := seg_len hs hi d (by omega)
    obtain ⟨o, _, v, _, h1⟩ := seg_next hK htr hs (j := i + d) (by omega) (by omega)
    rw [show i + (d + 1) = i + d + 1 from by omega]
    rcases h1 with ⟨_, os, h1⟩ | ⟨wid, ob, _, _, h1⟩
    · rw [h1]; simp; omega
    · rw [h1]; simp; omega

theorem seg_at (hs : Seg x ops.toList sq σ ρ p q) {i id : Nat} (hi : p ≤ i) (hid : id < (σ i).hp.length) : ∀ d, i + d ≤ q → (∀ j wid, i ≤ j → j < i + d → isLate lt j = some wid → id ≠ wid) → (σ (i + d)).hp.at id = (σ i).hp.at id
  | 0, _, _ => rfl
  | d + 1, h, hn => by
    have ih := seg_at hs hi hid d (by omega) (fun j wid h1 h2 h3 => hn j wid h1 (by omega) h3)
    have hl := seg_len hK htr hs hi d (by omega)
    obtain ⟨o, _, v, _, h1⟩ := seg_next hK htr hs (j := i + d) (by omega) (by omega)
    rw [show i + (d + 1) = i + d + 1 from by omega, ← ih]
    rcases h1 with ⟨_, os, h1⟩ | ⟨wid, ob, h2, h3, h1⟩
    · rw [h1]; simp only [Hp.at]; rw [List.getElem?_append_left (by omega)]
    · rw [h1, at_set h3, if_neg (hn (i + d) wid (by omega) (by omega) h2)]

theorem seg_tm (hs : Seg x ops.toList sq σ ρ p q) {i t : Nat} (hi : p ≤ i) : ∀ d, i + d ≤ q → (∀ (j : Nat) (o : Oper), i ≤ j → j < i + d → ops.toList[j]? = some o → o.dst ≠ some t) → look (σ (i + d)).tm t = look (σ i).tm t
  | 0, _, _ => rfl
  | d + 1, h, hn => by
    have ih := seg_tm hs hi d (by omega) (fun j o h1 h2 => hn j o h1 (by omega))
    obtain ⟨o, ho, v, h1, _⟩ := seg_next hK htr hs (j := i + d) (by omega) (by omega)
    rw [show i + (d + 1) = i + d + 1 from by omega, h1, look_putO, if_neg (hn (i + d) o (by omega) (by omega) ho), ih]

/-- Memory, as far as a stretch has come: a late write that is not done has not written. -/
structure HOf (lt : Option (Nat × Nat × List Nat)) (σ : Nat → St) (p q : Nat) (L : Nat → Prop) (H : Hp) : Prop where
  len : H.length = (σ q).hp.length
  same : ∀ id, id < H.length → (∀ j wid, p ≤ j → j < q → isLate lt j = some wid → ¬ L j → id ≠ wid) → H.at id = (σ q).hp.at id
  old : ∀ j wid, p ≤ j → j < q → isLate lt j = some wid → ¬ L j → H.at wid = (σ j).hp.at wid

/-- Where the machine stands within a stretch: L tells what is done. -/
structure SegRel (A : At) (l : List Oper) (lt : Option (Nat × Nat × List Nat)) (σ : Nat → St) (p q : Nat) (L : Nat → Prop) (C : Cx) (a : Act) (w : World) : Prop where
  size : a.tmps.size = A.nt
  defers : Marks A.F.w0 C a.defers
  mem : ∃ H, HOf lt σ p q L H ∧ Mem A.F C H w
  ext : Ext A.n0 A.C0 C
  len : A.n0 ≤ (σ p).hp.length
  old : ∀ (t j : Nat) (o : Oper), p ≤ j → j < q → ¬ L j → l[j]? = some o → o.dst = some t → ARep C (σ q).hp.length (look (σ p).tm t) (a.tmps.getD t Go.undef)
  new : ∀ t : Nat, (∀ (j : Nat) (o : Oper), p ≤ j → j < q → l[j]? = some o → o.dst = some t → L j) → ARep C (σ q).hp.length (look (σ q).tm t) (a.tmps.getD t Go.undef)
  none : ∀ j, p ≤ j → j < q → ¬ L j → ∀ id, (σ j).hp.length ≤ id → id < (σ (j + 1)).hp.length → C.μ id = .none

/-- A stretch begins. -/
theorem seg_begin (hs : Seg x ops.toList sq σ ρ p q) {L : Nat → Prop} (hL : ∀ j, p ≤ j → j < q → ¬ L j) {C : Cx} {a : Act} {w : World} (hr : Rel A C (σ p) a w) : ∃ C', SegRel A ops.toList lt σ p q L C' a w := by
  have hpq := hs.le
  have hle := seg_len hK htr hs (Nat.le_refl p) (q - p) (by omega)
  rw [show p + (q - p) = q from by omega] at hle
  have hH : ∃ H : Hp, HOf lt σ p q L H ∧ ∀ id, id < (σ p).hp.length → H.at id = (σ p).hp.at id := by
    by_cases hl : ∃ j wid, p ≤ j ∧ j < q ∧ isLate lt j = some wid
    · obtain ⟨j, wid, h1, h2, h3⟩ := hl
      obtain ⟨o, _, v, _, h4⟩ := seg_next hK htr hs h1 h2
      have h5 : wid < (σ j).hp.length := by
        rcases h4 with ⟨h4, _⟩ | ⟨wid', _, h4, h5, _⟩
        · rw [h3] at h4; cases h4
        · rw [h3] at h4; cases h4; exact h5
      have h6 := seg_len hK htr hs h1 (q - j) (by omega)
      rw [show j + (q - j) = q from by omega] at h6
      refine ⟨(σ q).hp.set wid ((σ j).hp.at wid), ⟨by simp, fun id hid hn => ?_, fun j' wid' k1 k2 k3 _ => ?_⟩, fun id hid => ?_⟩
      · rw [at_set (by omega), if_neg (hn j wid h1 h2 h3 (hL j h1 h2))]
      · obtain ⟨rfl, rfl⟩ := late_one h3 k3
        rw [at_set (by omega), if_pos rfl]
      · rw [at_set (by omega)]
        split
        · rename_i e
          subst e
          have := seg_at hK htr hs (Nat.le_refl p) hid (j - p) (by omega) (fun j' wid' k1 k2 k3 => by have := (late_one h3 k3).1; omega)
          rw [show p + (j - p) = j from by omega] at this
          exact this
        · rename_i e
          have := seg_at hK htr hs (Nat.le_refl p) hid (q - p) (by omega) (fun j' wid' k1 k2 k3 => by rw [← (late_one h3 k3).2]; exact e)
          rw [show p + (q - p) = q from by omega] at this
          exact this
    · refine ⟨(σ q).hp, ⟨rfl, fun _ _ _ => rfl, fun j wid h1 h2 h3 _ => absurd ⟨j, wid, h1, h2, h3⟩ hl⟩, fun id hid => ?_⟩
      have := seg_at hK htr hs (Nat.le_refl p) hid (q - p) (by omega) (fun j' wid' k1 k2 k3 => absurd ⟨j', wid', k1, by omega, k3⟩ hl)
      rw [show p + (q - p) = q from by omega] at this
      exact this
  obtain ⟨H, hH, hag⟩ := hH
  have hsplit : H = (σ p).hp ++ H.drop (σ p).hp.length := by
    have e : H.take (σ p).hp.length = (σ p).hp := by
      refine hp_ext (by rw [List.length_take, hH.len]; omega) (fun id hid => ?_)
      have hid' : id < (σ p).hp.length := by rw [List.length_take] at hid; omega
      rw [← hag id hid']
      simp only [Hp.at, List.getElem?_take]
      rw [if_pos hid']
    conv => lhs; rw [← List.take_append_drop (σ p).hp.length H]
    rw [e]
  obtain ⟨h1, h2⟩ := hr.mem.room (H.drop (σ p).hp.length)
  rw [← hsplit] at h1
  refine ⟨_, hr.size, hr.defers.mono h2.K, ⟨H, hH, h1⟩, hr.ext.trans (h2.le hr.len), hr.len, fun t j o _ _ _ _ _ => (hr.tm t).mono h2 hle, fun t hn => ?_, fun j hj hq _ id h3 _ => ?_⟩
  · have := seg_tm hK htr hs (t := t) (Nat.le_refl p) (q - p) (by omega) (fun j o h3 h4 h5 h6 => hL j h3 (by omega) (hn j o h3 (by omega) h5 h6))
    rw [show p + (q - p) = q from by omega] at this
    rw [this]
    exact (hr.tm t).mono h2 hle
  · have := seg_len hK htr hs (Nat.le_refl p) (j - p) (by omega)
    rw [show p + (j - p) = j from by omega] at this
    exact cut_new (by omega)

omit hK htr in
/-- A stretch ends. -/
theorem seg_end {L : Nat → Prop} (hL : ∀ j, p ≤ j → j < q → L j) (hle : A.n0 ≤ (σ q).hp.length) {C : Cx} {a : Act} {w : World} (hr : SegRel A ops.toList lt σ p q L C a w) : Rel A C (σ q) a w := by
  obtain ⟨H, h1, h2⟩ := hr.mem
  have e : H = (σ q).hp := hp_ext h1.len fun id hid => h1.same id hid fun j wid k1 k2 _ k3 => absurd (hL j k1 k2) k3
  subst e
  exact ⟨hr.size, hr.defers, fun t => hr.new t (fun j _ h1 h2 _ _ => hL j h1 h2), h2, hr.ext, hle⟩

omit hK htr in
theorem lateId_congr {tm tm' : Tm} {op : Op} (hx : ∀ y ∈ op.operands.toList, evo tm y = evo tm' y) : lateId tm op = lateId tm' op := by
  cases op <;> try rfl
  case store t a v =>
    simp only [lateId]
    rw [hx a (by simp [Op.operands])]
  case call c =>
    obtain ⟨callee, args, argTypes⟩ := c
    simp only [lateId]
    rw [evs_congr (tm' := tm') fun y hy => hx y (by simp only [Op.operands, Call.operands, Array.toList_append, List.mem_append]; exact .inr hy)]
omit hK htr in
theorem opW_congr {T : Tab} {h : Hp} {tm tm' : Tm} {op : Op} {wid : Nat} (hid : lateId tm op = some wid) (hx : ∀ y ∈ op.operands.toList, evo tm y = evo tm' y) : opW T h tm op = opW T h tm' op := by
  cases op <;> simp only [lateId] at hid <;> try (cases hid; done)
  case store t a v =>
    simp only [opW]
    rw [hx a (by simp [Op.operands]), hx v (by simp [Op.operands])]
  case call c =>
    obtain ⟨callee, args, argTypes⟩ := c
    cases callee <;> simp only at hid <;> try (cases hid; done)
    rename_i b
    cases b <;> simp only at hid <;> try (cases hid; done)
    simp only [opW]
    rw [evs_congr (tm' := tm') fun y hy => hx y (by simp only [Op.operands, Call.operands, Array.toList_append, List.mem_append]; exact .inr hy)]
end
end Go.En
set_option linter.unusedSimpArgs false
set_option linter.unusedSectionVars false
set_option linter.unusedVariables false
namespace Go.En
open Go.RowKit

section
variable {P : Program} {x : X} {A : At} {LT : LoopTab} {ops : Array Oper} {sq : List Nat} {lt : Option (Nat × Nat × List Nat)} {σ : Nat → St} {ρ : Nat → Hp} {p q : Nat}
variable (hK : Known LT P x)
variable (htr : ∀ (j : Nat) (o : Oper), ops.toList[j]? = some o → TStep x ops.toList sq lt σ ρ j o)
include hK htr

/-- What the variables that an operation reads hold. -/
theorem seg_read (hL : A.C0.L = LT) (hnt : x.nt = A.nt) (hd : Draw ops.toList sq lt) (hs : Seg x ops.toList sq σ ρ p q) {L : Nat → Prop} {i : Nat} {o : Oper} (hi : p ≤ i) (hq : i < q) (ho : ops.toList[i]? = some o) (hni : ¬ L i)
    (hanc : ∀ j ∈ ((ancs ops.toList)[i]?).getD [], L j) (hancL : ∀ j, L j → j < ops.toList.length → ∀ k ∈ ((ancs ops.toList)[j]?).getD [], L k)
    {C : Cx} {a : Act} {w : World} (hr : SegRel A ops.toList lt σ p q L C a w) : ∀ t ∈ readsOf ops.toList o, ARep C (σ q).hp.length (look (σ i).tm t) (a.tmps.getD t Go.undef) := by
  have hpi : i = p + (i - p) := by omega
  have huniq : ∀ (j j' : Nat) (b b' : Oper) (t : Nat), ops.toList[j]? = some b → ops.toList[j']? = some b' → b.dst = some t → b'.dst = some t → j = j' := apartAll_spec hd.dsts
  intro t ht
  by_cases hw : ∃ (j : Nat) (b : Oper), p ≤ j ∧ j < q ∧ ops.toList[j]? = some b ∧ b.dst = some t
  · obtain ⟨j, b, hj1, hj2, hj3, hj4⟩ := hw
    have nodst : ∀ (lo n : Nat), (∀ k, lo ≤ k → k < lo + n → k ≠ j) → ∀ (k : Nat) (c : Oper), lo ≤ k → k < lo + n → ops.toList[k]? = some c → c.dst ≠ some t := fun lo n hne k c hk1 hk2 hk3 hk4 =>
      hne k hk1 hk2 (huniq k j c b t hk3 hj3 hk4 hj4)
    rcases Nat.lt_trichotomy j i with hji | hji | hji
    · -- before
      have hLj : L j := by
        rcases hd.apart i j o b hji ho hj3 with h4 | h4
        · exact hanc j h4
        · simp only [apartB, hj4, Bool.and_eq_true, Bool.not_eq_true'] at h4
          have := h4.1.1
          simp at this
          exact absurd ht this
      have e1 := seg_tm hK htr hs (t := t) (i := j + 1) (by omega) (i - (j + 1)) (by omega) (nodst _ _ (fun k h5 h6 => by omega))
      have e2 := seg_tm hK htr hs (t := t) (i := j + 1) (by omega) (q - (j + 1)) (by omega) (nodst _ _ (fun k h5 h6 => by omega))
      rw [show j + 1 + (i - (j + 1)) = i from by omega] at e1
      rw [show j + 1 + (q - (j + 1)) = q from by omega] at e2
      rw [e1, ← e2]
      exact hr.new t (fun k c h5 h6 h7 h8 => by rw [huniq k j c b t h7 hj3 h8 hj4]; exact hLj)
    · subst hji
      have e1 := seg_tm hK htr hs (t := t) (Nat.le_refl p) (j - p) (by omega) (nodst _ _ (fun k h5 h6 => by omega))
      rw [← hpi] at e1
      rw [e1]
      exact hr.old t j b hi hq hni hj3 hj4
    · have hLj : ¬ L j := by
        intro hLj
        rcases hd.apart j i b o hji hj3 ho with h4 | h4
        · exact hni (hancL j hLj (List.getElem?_eq_some_iff.1 hj3).1 i h4)
        · simp only [apartB, hj4, Bool.and_eq_true, Bool.not_eq_true'] at h4
          have := h4.2
          simp at this
          exact absurd ht this
      have e1 := seg_tm hK htr hs (t := t) (Nat.le_refl p) (i - p) (by omega) (nodst _ _ (fun k h5 h6 => by omega))
      rw [← hpi] at e1
      rw [e1]
      exact hr.old t j b hj1 hj2 hLj hj3 hj4
  · have no : ∀ (k : Nat) (c : Oper), p ≤ k → k < q → ops.toList[k]? = some c → c.dst ≠ some t := fun k c h5 h6 h7 h8 => hw ⟨k, c, h5, h6, h7, h8⟩
    have e1 := seg_tm hK htr hs (t := t) hi (q - i) (by omega) (fun k c h5 h6 => no k c (by omega) (by omega))
    rw [show i + (q - i) = q from by omega] at e1
    rw [← e1]
    exact hr.new t (fun k c h5 h6 h7 h8 => absurd h8 (no k c h5 h6 h7))

/-- One operation of a stretch. -/
theorem seg_step (hL : A.C0.L = LT) (hnt : x.nt = A.nt) (hd : Draw ops.toList sq lt) (hs : Seg x ops.toList sq σ ρ p q) {L : Nat → Prop} {i : Nat} {o : Oper} (hi : p ≤ i) (hq : i < q) (ho : ops.toList[i]? = some o) (hni : ¬ L i)
    (hanc : ∀ j ∈ ((ancs ops.toList)[i]?).getD [], L j) (hancL : ∀ j, L j → j < ops.toList.length → ∀ k ∈ ((ancs ops.toList)[j]?).getD [], L k)
    {C : Cx} {a : Act} {w : World} (hr : SegRel A ops.toList lt σ p q L C a w) :
    Does A.rn P ops o a w fun u w' => ∃ C', SegRel A ops.toList lt σ p q (fun j => L j ∨ j = i) C' (a.put o.dst u) w' := by
  have hread := seg_read hK htr hL hnt hd hs hi hq ho hni hanc hancL hr
  obtain ⟨g, hg, he⟩ := seg_op hK htr hs hi hq ho
  have hpi : i = p + (i - p) := by omega
  have hqi : q = i + (q - i) := by omega
  have hqi1 : q = i + 1 + (q - (i + 1)) := by omega
  have hlenpi : (σ p).hp.length ≤ (σ i).hp.length := by rw [hpi]; exact seg_len hK htr hs (Nat.le_refl p) (i - p) (by omega)
  have hlenq : (σ (i + 1)).hp.length ≤ (σ q).hp.length := by
    have := seg_len hK htr hs (i := i + 1) (by omega) (q - (i + 1)) (by omega)
    rwa [← hqi1] at this
  have hlenii : (σ i).hp.length ≤ (σ (i + 1)).hp.length := seg_len hK htr hs hi 1 (by omega)
  have hn0 : A.n0 ≤ (σ q).hp.length := by have := hr.len; omega
  have hwant := guard_wanted (ops := ops) (a := a) hg rfl (fun t ht => hread t (by simp only [readsOf, List.mem_append]; exact .inr ht))
  have huniq : ∀ (j j' : Nat) (b b' : Oper) (t : Nat), ops.toList[j]? = some b → ops.toList[j']? = some b' → b.dst = some t → b'.dst = some t → j = j' := apartAll_spec hd.dsts
  obtain ⟨H, hH, hm⟩ := hr.mem
  -- what is so of the state behind the operation, whichever it is
  have fin : ∀ (u : Value) (w' : World) (C' : Cx) (H' : Hp) (v : AV), (σ (i + 1)).tm = putO (σ i).tm o.dst v → (∀ d, o.dst = some d → d < x.nt) → Ext (σ q).hp.length C C' → HOf lt σ p q (fun j => L j ∨ j = i) H' → Mem A.F C' H' w' → ARep C' (σ q).hp.length v u →
      (∀ j, p ≤ j → j < q → ¬ (L j ∨ j = i) → ∀ id, (σ j).hp.length ≤ id → id < (σ (j + 1)).hp.length → C'.μ id = .none) → ∃ C', SegRel A ops.toList lt σ p q (fun j => L j ∨ j = i) C' (a.put o.dst u) w' := by
    intro u w' C' H' v h2 h1 h4 hH' h6 h7 hnone
    have hput : ∀ t, (a.put o.dst u).tmps.getD t Go.undef = if o.dst = some t then u else a.tmps.getD t Go.undef := fun t => put_getD a o.dst u t (fun j e => by rw [hr.size, ← hnt]; exact h1 j e)
    refine ⟨C', by rw [put_size]; exact hr.size, by rw [put_defers]; exact hr.defers.mono h4.K, ⟨H', hH', h6⟩, hr.ext.trans (h4.le hn0), hr.len, fun t j b hj1 hj2 hj3 hj4 hj5 => ?_, fun t hn => ?_, hnone⟩
    · have hne : j ≠ i := fun e => hj3 (.inr e)
      rw [hput, if_neg (fun e => hne (huniq j i b o t hj4 ho hj5 e))]
      exact (hr.old t j b hj1 hj2 (fun e => hj3 (.inl e)) hj4 hj5).mono h4 (Nat.le_refl _)
    · rw [hput]
      by_cases e : o.dst = some t
      · rw [if_pos e]
        have e1 := seg_tm hK htr hs (t := t) (i := i + 1) (by omega) (q - (i + 1)) (by omega) (fun k c h8 h9 h10 h11 => by
          have := huniq k i c o t h10 ho h11 e
          omega)
        rw [← hqi1] at e1
        rw [e1, h2]
        simp only [look_putO, e, if_true]
        exact h7
      · rw [if_neg e]
        refine (hr.new t (fun k c h8 h9 h10 h11 => ?_)).mono h4 (Nat.le_refl _)
        rcases hn k c h8 h9 h10 h11 with h12 | h12
        · exact h12
        · subst h12
          rw [ho] at h10; cases h10
          exact absurd h11 e
  rcases he with ⟨wid, hlate, he⟩ | ⟨hlate, he, hmk⟩
  · -- the late write
    obtain ⟨h1, hwl, hid, hgt, hk, r, hW, hσ⟩ := evLate_inv he
    have hag : ∀ id, id < (σ i).hp.length → H.at id = (σ i).hp.at id := fun id hidl => by
      by_cases e : id = wid
      · rw [e]; exact hH.old i wid hi hq hlate hni
      · rw [hH.same id (by rw [hH.len]; omega) (fun j wid' k1 k2 k3 _ => by rw [← (late_one hlate k3).2]; exact e)]
        have := seg_at hK htr hs hi hidl (q - i) (by omega) (fun j wid' k1 k2 k3 => by rw [← (late_one hlate k3).2]; exact e)
        rwa [← hqi] at this
    have hlH : (σ i).hp.length ≤ H.length := by rw [hH.len]; omega
    obtain ⟨ob, hr1, hW2⟩ := opW_ext hid hwl hlH hag hW
    have hev : ∀ y ∈ o.op.operands.toList, evo (σ i).tm y = evo (only (σ i).tm (slotsOf o.op.operands.toList)) y := fun y hy => only_evo hy
    rw [opW_congr hid hev] at hW2
    have hlk : ∀ t, ARep C H.length (look (only (σ i).tm (slotsOf o.op.operands.toList)) t) (a.tmps.getD t Go.undef) := by
      intro t
      unfold only
      rw [look_map]
      split
      · rename_i ht
        rw [hH.len]
        exact hread t (by simp only [readsOf, List.mem_append]; exact .inl ht)
      · exact .undef _
    rw [opK_congr hev] at hk
    obtain ⟨v, w', C', h2, h3, h4, h5, h6, h7⟩ := opW_sound hK.T hm hlk hW2 hk
    have hid2 : lateId (only (σ i).tm (slotsOf o.op.operands.toList)) o.op = some wid := by
      rw [← lateId_congr hev]; exact hid
    have hσtm : (σ (i + 1)).tm = putO (σ i).tm o.dst (mkg g r.2) := by rw [hσ]
    have hσhp : (σ (i + 1)).hp = (σ i).hp.set wid ob := by rw [hσ]; exact hr1
    have hH' : HOf lt σ p q (fun j => L j ∨ j = i) (H.set wid ob) := by
      refine ⟨by simp [hH.len], fun id hidl hn => ?_, fun j wid' k1 k2 k3 k4 => absurd (.inr (late_one hlate k3).1.symm) k4⟩
      have hidl' : id < H.length := by simpa using hidl
      rw [at_set (by omega)]
      split
      · rename_i e
        subst e
        have := seg_at hK htr hs (i := i + 1) (id := id) (by omega) (by rw [hσhp]; simpa using hwl) (q - (i + 1)) (by omega) (fun j wid' k1 k2 k3 => by have := (late_one hlate k3).1; omega)
        rw [← hqi1] at this
        rw [this, hσhp, at_set hwl, if_pos rfl]
      · rename_i e
        exact hH.same id hidl' (fun j wid' k1 k2 k3 _ => by rw [← (late_one hlate k3).2]; exact e)
    have h3' : Ext (σ q).hp.length C C' := by rw [← hH.len]; exact h3
    have hnone : ∀ j, p ≤ j → j < q → ¬ (L j ∨ j = i) → ∀ id, (σ j).hp.length ≤ id → id < (σ (j + 1)).hp.length → C'.μ id = .none := fun j hj1 hj2 hj3 id k1 k2 => by
      have hne : id ≠ wid := by
        intro e
        subst e
        obtain ⟨b, hb⟩ : ∃ b, ops.toList[j]? = some b := ⟨_, List.getElem?_eq_getElem (by have := hs.top; omega)⟩
        obtain ⟨gj, _, hej⟩ := seg_op hK htr hs hj1 hj2 hb
        rcases hej with ⟨wj, hlj, _⟩ | ⟨_, _, hmj⟩
        · exact hj3 (.inr (late_one hlate hlj).1.symm)
        · cases hlt : lt with
          | none => rw [hlt] at hlate; cases hlate
          | some qq =>
            obtain ⟨k0, w0, an⟩ := qq
            have hk0 : i = k0 ∧ w0 = id := by
              rw [hlt] at hlate
              simp only [isLate] at hlate
              split at hlate
              · cases hlate; rename_i e; exact ⟨e, rfl⟩
              · cases hlate
            rw [hlt] at hmj
            simp only [lateMk, Bool.or_eq_true, decide_eq_true_eq] at hmj
            rcases hmj with hmj | hmj
            · have := hd.late k0 w0 an hlt j (by simpa using hmj)
              rw [← hk0.1] at this
              exact hj3 (.inl (hanc j this))
            · rw [hk0.2] at hmj; omega
      rw [h7 id (by rw [hid2]; intro e; cases e; exact hne rfl)]
      exact hr.none j hj1 hj2 (fun e => hj3 (.inl e)) id k1 k2
    rw [hgt] at hwant
    have hrep : ARep C' (σ q).hp.length (mkg g r.2) v := by
      have := mkg_rep hgt h6
      rwa [hH.len] at this
    rcases h2 with h2 | ⟨h2, rfl⟩
    · exact does_value (noDefer_W hW2) hwant h2 (fin _ _ C' _ _ hσtm h1 h3' hH' h4 hrep hnone)
    · exact does_skip (noDefer_W hW2) hwant h2 (fin _ _ C' _ _ hσtm h1 h3' hH' h4 hrep hnone)
  · -- one among others
    obtain ⟨h1, v, os, h2, h3⟩ := evOp_free (rn := A.rn) hK.T hK.calls he
    have hl1 : (σ (i + 1)).hp.length = (σ i).hp.length + os.length := by rw [h2]; simp
    have hat0 : ∀ id, id < (σ p).hp.length → (∀ j wid, p ≤ j → j < q → isLate lt j = some wid → id ≠ wid) → H.at id = (σ p).hp.at id := fun id hid hn => by
      rw [hH.same id (by rw [hH.len]; omega) (fun j wid k1 k2 k3 _ => hn j wid k1 k2 k3)]
      have hpq := hs.le
      have := seg_at hK htr hs (Nat.le_refl p) hid (q - p) (by omega) (fun j wid k1 k2 k3 => hn j wid k1 (by omega) k3)
      rwa [show p + (q - p) = q from by omega] at this
    have hrd : ∀ id, (lateRd lt i (σ p).hp).at id ≠ .dead → H.at id = (lateRd lt i (σ p).hp).at id := fun id hid => by
      cases hlt : lt with
      | none =>
        rw [hlt] at hid
        simp only [lateRd] at hid ⊢
        exact hat0 id (at_lt hid) (fun j wid _ _ k3 => by rw [hlt] at k3; cases k3)
      | some qq =>
        obtain ⟨k0, w0, an⟩ := qq
        rw [hlt] at hid
        simp only [lateRd] at hid ⊢
        have hone : ∀ j wid, isLate lt j = some wid → j = k0 ∧ wid = w0 := fun j wid k3 => by
          rw [hlt] at k3
          simp only [isLate] at k3
          split at k3
          · cases k3; rename_i e; exact ⟨e, rfl⟩
          · cases k3
        split
        · rename_i han
          rw [if_pos han] at hid
          have hidl := at_lt hid
          by_cases e : id = w0 ∧ p ≤ k0 ∧ k0 < q
          · obtain ⟨rfl, e1, e2⟩ := e
            have hlk : isLate lt k0 = some id := by rw [hlt]; simp [isLate]
            by_cases hLk : L k0
            · exact absurd (hancL k0 hLk (by have := hs.top; omega) i (hd.late k0 id an hlt i (by simpa using han))) hni
            · rw [hH.old k0 id e1 e2 hlk hLk]
              have := seg_at hK htr hs (Nat.le_refl p) hidl (k0 - p) (by omega) (fun j wid k1 k2 k3 => by have := (hone j wid k3).1; omega)
              rwa [show p + (k0 - p) = k0 from by omega] at this
          · exact hat0 id hidl (fun j wid k1 k2 k3 e3 => e ⟨by rw [e3, (hone j wid k3).2], by rw [← (hone j wid k3).1]; exact k1, by rw [← (hone j wid k3).1]; exact k2⟩)
        · rename_i han
          rw [if_neg han] at hid
          have hidl : id < (σ p).hp.length := by have := at_lt hid; simpa using this
          have hne : id ≠ w0 := by
            intro e
            subst e
            rw [at_set hidl, if_pos rfl] at hid
            exact hid rfl
          have e2 : Hp.at ((σ p).hp.set w0 .dead) id = (σ p).hp.at id := by
            simp only [Hp.at, List.getElem?_set]
            rw [if_neg (Ne.symm hne)]
          rw [e2]
          exact hat0 id hidl (fun j wid _ _ k3 => by rw [(hone j wid k3).2]; exact hne)
    have hfree : Frees C H (σ i).hp.length os := fun k b hb => by
      have hk := (List.getElem?_eq_some_iff.1 hb).1
      refine ⟨by rw [hH.len]; omega, hr.none i hi hq hni _ (by omega) (by omega), ?_⟩
      have hb1 : (σ (i + 1)).hp.at ((σ i).hp.length + k) = b := by
        rw [h2]
        simp only [Hp.at]
        rw [List.getElem?_append_right (by omega), show (σ i).hp.length + k - (σ i).hp.length = k from by omega, hb]
        rfl
      by_cases hl : ∃ j, p ≤ j ∧ j < q ∧ isLate lt j = some ((σ i).hp.length + k)
      · obtain ⟨j, k1, k2, k3⟩ := hl
        cases hlt : lt with
        | none => rw [hlt] at k3; cases k3
        | some qq =>
          obtain ⟨k0, w0, an⟩ := qq
          have hk0 : j = k0 ∧ w0 = (σ i).hp.length + k := by
            rw [hlt] at k3
            simp only [isLate] at k3
            split at k3
            · cases k3; rename_i e; exact ⟨e, rfl⟩
            · cases k3
          have hmk' := hmk
          rw [hlt] at hmk'
          simp only [lateMk, Bool.or_eq_true, decide_eq_true_eq] at hmk'
          rcases hmk' with hmk' | hmk'
          · have hia := hd.late k0 w0 an hlt i (by simpa using hmk')
            have hnj : ¬ L j := fun hLj => hni (hancL j hLj (by have := hs.top; omega) i (by rw [hk0.1]; exact hia))
            rw [hH.old j _ k1 k2 k3 hnj]
            have hij : i < j := by
              obtain ⟨oj, _, vj, _, h4⟩ := seg_next hK htr hs k1 k2
              have h5 : (σ i).hp.length + k < (σ j).hp.length := by
                rcases h4 with ⟨h4, _⟩ | ⟨wid', _, h4, h5, _⟩
                · rw [k3] at h4; cases h4
                · rw [k3] at h4; cases h4; exact h5
              rcases Nat.lt_or_ge i j with h6 | h6
              · exact h6
              · have := seg_len hK htr hs k1 (i - j) (by omega)
                rw [show j + (i - j) = i from by omega] at this
                omega
            have := seg_at hK htr hs (i := i + 1) (id := (σ i).hp.length + k) (by omega) (by omega) (j - (i + 1)) (by omega) (fun j' wid' m1 m2 m3 => by have := (late_one k3 m3).1; omega)
            rw [show i + 1 + (j - (i + 1)) = j from by omega] at this
            rw [this, hb1]
          · rw [hk0.2] at hmk'; omega
      · rw [hH.same _ (by rw [hH.len]; omega) (fun j wid k1 k2 k3 _ e => hl ⟨j, k1, k2, by rw [k3, e]⟩)]
        have := seg_at hK htr hs (i := i + 1) (id := (σ i).hp.length + k) (by omega) (by omega) (q - (i + 1)) (by omega) (fun j wid k1 k2 k3 e => hl ⟨j, by omega, by omega, by rw [k3, e]⟩)
        rw [← hqi1] at this
        rw [this, hb1]
    refine (h3 A.F C H w a ops (hr.ext.L.trans hL) hm hrd (fun t ht => by rw [hH.len]; exact hread t (by simp only [readsOf, List.mem_append]; exact .inl ht)) hwant hfree).mono fun u w' hu => ?_
    obtain ⟨C', h4, h5, h6, h7⟩ := hu
    rw [hH.len] at h4 h7
    refine fin u w' C' H v (by rw [h2]) h1 h4 ⟨hH.len, fun id hidl hn => hH.same id hidl (fun j wid k1 k2 k3 k4 => hn j wid k1 k2 k3 (fun e => e.elim k4 (fun e => by subst e; rw [hlate] at k3; cases k3))), fun j wid k1 k2 k3 k4 => hH.old j wid k1 k2 k3 (fun e => k4 (.inl e))⟩ h6 h7 (fun j hj1 hj2 hj3 id hid1 hid2 => ?_)
    have hne : j ≠ i := fun e => hj3 (.inr e)
    have hidq : id < (σ q).hp.length := by
      have := seg_len hK htr hs (i := j + 1) (by omega) (q - (j + 1)) (by omega)
      rw [show j + 1 + (q - (j + 1)) = q from by omega] at this
      omega
    rw [h5 id (by rw [hH.len]; exact hidq) (fun e => ?_)]
    · exact hr.none j hj1 hj2 (fun e => hj3 (.inl e)) id hid1 hid2
    · rcases Nat.lt_or_gt_of_ne hne with h8 | h8
      · have := seg_len hK htr hs (i := j + 1) (by omega) (i - (j + 1)) (by omega)
        rw [show j + 1 + (i - (j + 1)) = i from by omega] at this
        omega
      · have := seg_len hK htr hs (i := i + 1) (by omega) (j - (i + 1)) (by omega)
        rw [show i + 1 + (j - (i + 1)) = j from by omega] at this
        omega
end
end Go.En
set_option linter.unusedSimpArgs false
set_option linter.unusedSectionVars false
namespace Go.En
open Go.RowKit

section
variable {P : Program} {x : X} {A : At} {LT : LoopTab} {ops : Array Oper} {sq : List Nat} {lt : Option (Nat × Nat × List Nat)} {σ : Nat → St} {ρ : Nat → Hp} {p q : Nat}

/-- Listed. -/
def Ls (listed : Array Bool) (j : Nat) : Prop := listed.getD j true = true

theorem ready_spec {listed : Array Bool} (hn : listed.size = ops.size) {i : Nat} (hd : Draw ops.toList sq lt) (hi : i ∈ Region.ready .any ops listed) :
    ∃ o, ops.toList[i]? = some o ∧ ¬ Ls listed i ∧ ∀ e ∈ o.after.toList, bindsAny e = true → Ls listed e.on := by
  simp only [Region.ready, List.mem_filter, List.mem_range, Bool.and_eq_true] at hi
  obtain ⟨h1, h2, h3⟩ := hi
  have ho : ops[i]? = some ops[i] := Array.getElem?_eq_getElem h1
  have ho' : ops.toList[i]? = some ops[i] := by rw [Array.getElem?_toList]; exact ho
  refine ⟨ops[i], ho', by simp [Ls] at h2 ⊢; exact h2, fun e he hb => ?_⟩
  rw [ho] at h3
  simp only [Option.map_some, Option.getD_some, Array.all_eq_true'] at h3
  have h4 := h3 e (Array.mem_toList_iff.1 he)
  have hbn : Region.binds .any e = true := by
    unfold bindsAny at hb
    unfold Region.binds
    split at hb <;> simp_all
  rw [hbn] at h4
  have hlt := hd.before i _ ho' e he hb
  simp only [Bool.not_true, Bool.false_or] at h4
  unfold Ls
  have : e.on < listed.size := by omega
  simpa [Array.getD_eq_getD_getElem?, this] using h4

theorem ready_of {listed : Array Bool} (hn : listed.size = ops.size) {i : Nat} {o : Oper} (hd : Draw ops.toList sq lt) (ho : ops.toList[i]? = some o) (hni : ¬ Ls listed i) (he : ∀ e ∈ o.after.toList, bindsAny e = true → Ls listed e.on) :
    i ∈ Region.ready .any ops listed := by
  have hi : i < ops.size := by simpa using (List.getElem?_eq_some_iff.1 ho).1
  have ho' : ops[i]? = some o := by simpa using ho
  simp only [Region.ready, List.mem_filter, List.mem_range, Bool.and_eq_true]
  refine ⟨hi, by simpa [Ls] using hni, ?_⟩
  rw [ho']
  simp only [Option.map_some, Option.getD_some, Array.all_eq_true']
  intro e hem
  have hem' := Array.mem_toList_iff.2 hem
  by_cases hb : bindsAny e = true
  · have h1 := he e hem' hb
    have hlt := hd.before i o ho e hem' hb
    have : e.on < listed.size := by omega
    unfold Ls at h1
    simp only [Array.getD_eq_getD_getElem?, Array.getElem?_eq_getElem this, Option.getD_some] at h1 ⊢
    simp [h1]
  · have : Region.binds .any e = false := by
      unfold bindsAny at hb
      unfold Region.binds
      split at hb <;> simp_all
    simp [this]

theorem all_listed {listed : Array Bool} (hn : listed.size = ops.size) (hd : Draw ops.toList sq lt) (hr : Region.ready .any ops listed = []) : ∀ j, j < ops.toList.length → Ls listed j := by
  intro j
  induction j using Nat.strongRecOn with
  | ind j ih =>
    intro hj
    by_cases h : Ls listed j
    · exact h
    · have ho : ops.toList[j]? = some ops.toList[j] := List.getElem?_eq_getElem hj
      have := ready_of hn hd ho h (fun e he hb => ih e.on (hd.before j _ ho e he hb) (by have := hd.before j _ ho e he hb; omega))
      rw [hr] at this
      cases this

theorem Ls_set {listed : Array Bool} (i j : Nat) (hi : i < listed.size) : Ls (listed.setIfInBounds i true) j ↔ (Ls listed j ∨ j = i) := by
  unfold Ls
  simp only [Array.getD_eq_getD_getElem?, Array.getElem?_setIfInBounds]
  by_cases h : i = j
  · subst h; simp [hi]
  · simp [h, Ne.symm h]

variable (hK : Known LT P x)
variable (htr : ∀ (j : Nat) (o : Oper), ops.toList[j]? = some o → TStep x ops.toList sq lt σ ρ j o)
include hK htr

/-- Among all orders of a region that draws: where the machine stands. -/
structure Inv (x : X) (A : At) (ops : Array Oper) (sq : List Nat) (lt : Option (Nat × Nat × List Nat)) (σ : Nat → St) (ρ : Nat → Hp) (p q : Nat) (listed : Array Bool) (C : Cx) (a : Act) (w : World) : Prop where
  size : listed.size = ops.size
  shut : ∀ (j : Nat) (o : Oper), ops.toList[j]? = some o → Ls listed j → ∀ e ∈ o.after.toList, bindsAny e = true → Ls listed e.on
  seg : Seg x ops.toList sq σ ρ p q
  below : ∀ j, j < p → Ls listed j
  above : ∀ j, q ≤ j → j < ops.toList.length → ¬ Ls listed j
  rel : SegRel A ops.toList lt σ p q (Ls listed) C a w

theorem draw_wp (hL : A.C0.L = LT) (hnt : x.nt = A.nt) (hd : Draw ops.toList sq lt) {Q : Exit → Act → World → Prop} (hq : ∀ a w, Stands A (σ ops.toList.length) a w → Q .normal a w) :
    ∀ (fuel : Nat) (listed : Array Bool) (p q : Nat) (C : Cx) (a : Act) (w : World), listed.toList.count false ≤ fuel → Inv x A ops sq lt σ ρ p q listed C a w → wpAnyIn (FW A.rn) 0 P .any ops Q fuel listed a w := by
  -- the end
  have fin : ∀ (listed : Array Bool) (p q : Nat) (C : Cx) (a : Act) (w : World), Inv x A ops sq lt σ ρ p q listed C a w → Region.ready .any ops listed = [] → Q .normal a w := by
    intro listed p q C a w hI hr
    have hall := all_listed hI.size hd hr
    have hqe : q = ops.toList.length := by
      rcases Nat.lt_or_ge q ops.toList.length with h | h
      · exact absurd (hall q h) (hI.above q (Nat.le_refl _) h)
      · have := hI.seg.top; omega
    have hle := hI.seg.le
    have h1 := seg_len hK htr hI.seg (Nat.le_refl p) (q - p) (by omega)
    rw [show p + (q - p) = q from by omega] at h1
    have h2 := hI.rel.len
    rw [← hqe] at hq
    exact hq a w ⟨C, seg_end (fun j h3 h4 => hall j (by omega)) (by omega) hI.rel⟩
  intro fuel
  induction fuel with
  | zero =>
    intro listed p q C a w hc hI
    have hr : Region.ready .any ops listed = [] := by
      cases e : Region.ready .any ops listed with
      | nil => rfl
      | cons i r =>
        exfalso
        obtain ⟨o, h1, h2, _⟩ := ready_spec hI.size hd (i := i) (by rw [e]; simp)
        have hi : i < listed.size := by rw [hI.size]; simpa using (List.getElem?_eq_some_iff.1 h1).1
        have : false ∈ listed.toList := by
          have h3 : listed[i] = false := by
            unfold Ls at h2
            simpa [Array.getD_eq_getD_getElem?, hi] using h2
          rw [← h3]
          simp
        have := List.count_pos_iff.2 this
        omega
    exact ⟨hr, fin _ _ _ _ _ _ hI hr⟩
  | succ fuel ih =>
    intro listed p q C a w hc hI
    refine ⟨fin _ _ _ _ _ _ hI, fun i hi => ?_⟩
    obtain ⟨o, ho, hni, hed⟩ := ready_spec hI.size hd hi
    have hil : i < ops.toList.length := (List.getElem?_eq_some_iff.1 ho).1
    have his : i < listed.size := by rw [hI.size]; simpa using hil
    have ho' : ops[i]? = some o := by simpa using ho
    have hanc := anc_listed hd hI.shut i o ho hed
    have hancL : ∀ j, Ls listed j → j < ops.toList.length → ∀ k ∈ ((ancs ops.toList)[j]?).getD [], Ls listed k := fun j hj hjl => anc_listed hd hI.shut j _ (List.getElem?_eq_getElem hjl) (hI.shut j _ (List.getElem?_eq_getElem hjl) hj)
    have hp : p ≤ i := by
      rcases Nat.lt_or_ge i p with h | h
      · exact absurd (hI.below i h) hni
      · exact h
    have hcount : (listed.setIfInBounds i true).toList.count false ≤ fuel := by
      have h3 : listed[i] = false := by
        unfold Ls at hni
        simpa [Array.getD_eq_getD_getElem?, his] using hni
      have hil' : i < listed.toList.length := by simpa using his
      have e1 : (listed.toList[i] == false) = true := by simp [h3]
      rw [Array.toList_setIfInBounds, List.count_set hil', e1]
      have e2 : (true == false) = false := rfl
      rw [e2]
      simp only [if_true, Bool.false_eq_true, if_false]
      omega
    have hsize : (listed.setIfInBounds i true).size = ops.size := by simpa using hI.size
    have hshut : ∀ (j : Nat) (o : Oper), ops.toList[j]? = some o → Ls (listed.setIfInBounds i true) j → ∀ e ∈ o.after.toList, bindsAny e = true → Ls (listed.setIfInBounds i true) e.on := by
      intro j b hj hl e he hb
      rw [Ls_set i _ his] at hl ⊢
      rcases hl with hl | hl
      · exact .inl (hI.shut j b hj hl e he hb)
      · subst hl
        rw [ho] at hj; cases hj
        exact .inl (hed e he hb)
    rcases Nat.lt_or_ge i q with hiq | hiq
    · -- within the stretch
      refine wpOp_does ho' (seg_step hK htr hL hnt hd hI.seg hp hiq ho hni hanc hancL hI.rel) (fun u w' hu => ?_)
      obtain ⟨C', hu⟩ := hu
      have e : (fun j => Ls listed j ∨ j = i) = Ls (listed.setIfInBounds i true) := funext fun j => propext (Ls_set i j his).symm
      rw [e] at hu
      exact ih _ p q C' _ w' hcount ⟨hsize, hshut, hI.seg, fun j hj => (Ls_set i j his).2 (.inl (hI.below j hj)), fun j h1 h2 h3 => by
        rcases (Ls_set i j his).1 h3 with h4 | h4
        · exact hI.above j h1 h2 h4
        · omega, hu⟩
    · -- an operation between all others
      have hqs : q ∈ sq := by
        rcases hI.seg.stop with h | h
        · omega
        · exact h
      have hsq := hd.seq q hqs
      simp only [isSeq, List.all_eq_true, List.mem_range] at hsq
      have hiq' : i = q := by
        rcases Nat.lt_or_ge q i with h | h
        · exfalso
          have := hsq i hil
          rw [if_neg (by omega), if_pos h] at this
          exact hI.above q (Nat.le_refl _) (by omega) (hanc q (by simpa using this))
        · omega
      subst hiq'
      have hallb : ∀ j, j < i → Ls listed j := fun j hj => by
        have := hsq j (by omega)
        rw [if_pos hj] at this
        exact hanc j (by simpa using this)
      have hle := hI.seg.le
      have h1 := seg_len hK htr hI.seg (Nat.le_refl p) (i - p) (by omega)
      rw [show p + (i - p) = i from by omega] at h1
      have hrel := seg_end (fun j h3 h4 => hallb j h4) (by have := hI.rel.len; omega) hI.rel
      obtain ⟨g, hg, h2⟩ := htr i o ho
      rcases h2 with ⟨_, h2, h3⟩ | ⟨h2, _⟩
      · refine wpOp_does ho' (op_step hK hL hnt hg h2 hrel) (fun u w' hu => ?_)
        obtain ⟨C', hu⟩ := hu
        obtain ⟨q', hseg⟩ := Seg.exists (x := x) (sq := sq) ops.toList (ops.toList.length - (i + 1)) (i + 1) (by omega) h3
        have hab : ∀ j, i + 1 ≤ j → j < ops.toList.length → ¬ Ls (listed.setIfInBounds i true) j := fun j h4 h5 h6 => by
          rcases (Ls_set i j his).1 h6 with h7 | h7
          · exact hI.above j (by omega) h5 h7
          · omega
        obtain ⟨C'', hu⟩ := seg_begin hK htr hseg (L := Ls (listed.setIfInBounds i true)) (fun j h4 h5 => hab j h4 (by have := hseg.top; omega)) hu
        exact ih _ (i + 1) q' C'' _ w' hcount ⟨hsize, hshut, hseg, fun j hj => (Ls_set i j his).2 (by
          rcases Nat.lt_or_ge j i with h4 | h4
          · exact .inl (hallb j h4)
          · exact .inr (by omega)), fun j h4 h5 => hab j (by have := hseg.le; omega) h5, hu⟩
      · exact absurd hqs h2

end

section
variable {P : Program} {x : X} {A : At} {LT : LoopTab} {ops : Array Oper}

theorem evReg_sound (hK : Known LT P x) (hL : A.C0.L = LT) (hmix : P.follows .mixedOrders = true) (hnt : x.nt = A.nt) {id : Nat} {draw : Bool}
    (hok : (!draw || drawOk ops.toList (x.T.seqs x.f id) (x.T.late x.f id)) = true) {s s' : St} (he : evReg x id ops.toList draw s = some s') {a : Act} {w : World} (hs : Stands A s a w) {Q : Exit → Act → World → Prop}
    (hq : ∀ a w, Stands A s' a w → Q .normal a w) : (Code.region id ops draw).wpIn (FW A.rn) 0 P Q a w := by
  cases draw with
  | false =>
    refine wpIn_region ?_
    have he' : evSeq x ops.toList ops.toList s = some s' := by simpa [evReg] using he
    have := evSeq_sound (Q := Q) hK hL hnt ops.toList 0 s a w rfl he' hs hq
    simpa [List.range_eq_range'] using this
  | true =>
    have hd := drawOk_spec (by simpa using hok)
    have he' : evFree x ops.toList (x.T.seqs x.f id) (x.T.late x.f id) ops.toList 0 s.hp s = some s' := by simpa [evReg] using he
    obtain ⟨σ, ρ, h1, h2, h3, h4⟩ := evFree_trace ops.toList 0 s.hp s rfl he'
    have htr : ∀ (j : Nat) (o : Oper), ops.toList[j]? = some o → TStep x ops.toList (x.T.seqs x.f id) (x.T.late x.f id) σ ρ j o := fun j o ho => h4 j o (Nat.zero_le _) ho
    refine wpIn_region_any hmix ?_
    rw [Nat.zero_add] at h3
    obtain ⟨C, hr⟩ := hs
    have hr' : Rel A C (σ 0) a w.drew := by
      rw [h1]
      exact ⟨hr.size, hr.defers, hr.tm, hr.mem.grow (Below.refl _ w).drew, hr.ext, hr.len⟩
    obtain ⟨q, hseg⟩ := Seg.exists (x := x) (sq := x.T.seqs x.f id) (σ := σ) (ρ := ρ) ops.toList ops.toList.length 0 (by omega) (by rw [h2, h1])
    have hno : ∀ j, j < ops.toList.length → ¬ Ls (Array.replicate ops.size false) j := fun j hj => by
      have : j < ops.size := by simpa using hj
      simp [Ls, Array.getD_eq_getD_getElem?, this]
    obtain ⟨C', hu⟩ := seg_begin hK htr hseg (L := Ls (Array.replicate ops.size false)) (fun j _ h5 => hno j (by have := hseg.top; omega)) hr'
    refine draw_wp hK htr hL hnt hd (by rw [h3]; exact hq) ops.size _ 0 q C' a w.drew (by simp) ⟨by simp, fun j o ho hl => absurd hl (hno j (List.getElem?_eq_some_iff.1 ho).1), hseg, fun j hj => by omega, fun j _ h5 => hno j h5, hu⟩

end
end Go.En
set_option linter.unusedSimpArgs false
namespace Go.En
open Go.RowKit

section
variable {C : Cx} {n m : Nat}

theorem all_getD {α : Type} {l : List α} {f : α → Bool} {d : α} (h : l.all f = true) {k : Nat} (hk : k < l.length) : f (l.getD k d) = true := by
  simp only [List.all_eq_true] at h
  rw [List.getD_eq_getElem?_getD, List.getElem?_eq_getElem hk]
  exact h _ (List.getElem_mem _)

theorem lower2 {x : AV} {v : Value} (hr : ARep C n x v) (hb : below2 m x = true) : ARep C m x v := by
  unfold below2 at hb
  split at hb
  · cases hr with
    | agg cs vs h1 h2 => exact .agg _ _ h1 (fun k hk => lower1 (h2 k hk) (all_getD hb hk))
  · cases hr with
    | fn f cs vs h1 h2 => exact .fn _ _ _ h1 (fun k hk => lower1 (h2 k hk) (all_getD hb hk))
  · exact lower1 hr hb

theorem lower {x : AV} {v : Value} (hr : ARep C n x v) (hb : below m x = true) : ARep C m x v := by
  unfold below at hb
  split at hb
  · cases hr with
    | tup vs xs h1 h2 => exact .tup _ _ h1 (fun k hk => lower2 (h2 k hk) (all_getD hb hk))
  · cases hr with
    | gdT v x h => exact .gdT _ _ (lower1 h hb)
    | gdF v => exact .gdF _
  · exact lower2 hr hb

theorem lowO_rep {w : World} {c : Cn} {o : Obj} (hcb : ∀ r b, c = .loop r b → b ≤ m) (hr : ORep C n w c o) : ORep C m w c (lowO m o) := by
  unfold lowO
  split
  · rename_i cs
    split
    · rename_i hb
      cases c with
      | box B =>
        obtain ⟨c, T, h1, h2, h3, h4⟩ := hr
        exact ⟨c, T, h1, h2, h3, fun k hk => lower2 (h4 k hk) (all_getD hb hk)⟩
      | none => exact trivial
      | arr _ _ _ _ _ => exact hr.elim
      | nil _ => exact hr.elim
      | map _ => exact hr.elim
      | loop _ _ => exact hr.elim
    · exact trivial
  · cases o with
    | box cs => rename_i h; exact absurd rfl (h cs)
    | dead => exact trivial
    | arr g sz sh es => exact arrO_rep rfl (fun _ _ e => e) hr
    | map es =>
      cases c with
      | map r => exact hr
      | none => exact trivial
      | box _ => exact hr.elim
      | arr _ _ _ _ _ => exact hr.elim
      | nil _ => exact hr.elim
      | loop _ _ => exact hr.elim
    | loop st f lid tm =>
      cases c with
      | loop r b => exact ⟨hcb r b rfl, hr.2⟩
      | none => exact trivial
      | box _ => exact hr.elim
      | arr _ _ _ _ _ => exact hr.elim
      | nil _ => exact hr.elim
      | map _ => exact hr.elim

theorem low_at {h : Hp} {id : Nat} (hid : id < m) : Hp.at ((h.take m).map (lowO m)) id = lowO m (h.at id) := by
  simp only [Hp.at, List.getElem?_map, List.getElem?_take, hid, if_true]
  cases h[id]? <;> rfl

theorem Mem.low {F : Base} {h : Hp} {w : World} (hm : Mem F C h w) (hle : m ≤ h.length) : Mem F C ((h.take m).map (lowO m)) w := by
  have hl : ((h.take m).map (lowO m)).length = m := by simp; omega
  refine ⟨fun id hid => ?_, hm.prot, hm.src, fun id B hid e a v hv hab => ?_, fun i j B hi hj => ?_, fun id B hid e => ?_, hm.kept, fun B o e id hid => ?_, fun id r b hid => ?_, hm.fr⟩
  · rw [hl] at hid ⊢
    rw [low_at hid]
    exact lowO_rep (fun r b e => by have := hm.bnd id r b (by omega) e; omega) (hm.objs id (by omega))
  · rw [hl] at hid
    obtain ⟨g, o, cap, sz, es, h1, h2, h3⟩ := hm.sep id B (by omega) e a v hv hab
    exact ⟨g, o, cap, sz, es, h1, by rw [low_at hid, h2]; rfl, h3⟩
  · rw [hl] at hi hj
    exact hm.inj i j B (by omega) (by omega)
  · rw [hl] at hid
    exact hm.lt id B (by omega) e
  · rw [hl] at hid
    exact hm.ksep B o e id (by omega)
  · rw [hl] at hid
    exact hm.bnd id r b (by omega)

theorem Stands.norm {A : At} {s : St} {a : Act} {w : World} {ks : List Nat} (hs : Stands A s a w) (hm : A.n0 ≤ m) (hle : m ≤ s.hp.length) : Stands A (En.norm ks m s) a w := by
  obtain ⟨C, hr⟩ := hs
  have hl : (En.norm ks m s).hp.length = m := by simp [En.norm]; omega
  refine ⟨C, hr.size, hr.defers, fun i => ?_, hr.mem.low hle, hr.ext, by rw [hl]; exact hm⟩
  rw [hl]
  have e : look (En.norm ks m s).tm i = if i ∈ ks then keepV m (look s.tm i) else .undef := look_map (fun k => keepV m (look s.tm k)) ks i
  rw [e]
  split
  · unfold keepV
    split
    · rename_i hb; exact lower (hr.tm i) hb
    · exact .undef _
  · exact .undef _

end

open Classical in
/-- The least number of which something holds. -/
noncomputable def least (p : Nat → Prop) : Nat := if h : ∃ n, p n ∧ ∀ m, m < n → ¬ p m then Classical.choose h else 0

theorem least_ex {p : Nat → Prop} {n : Nat} (h : p n) : ∃ n, p n ∧ ∀ m, m < n → ¬ p m := by
  induction n using Nat.strongRecOn with
  | ind n ih =>
    by_cases h1 : ∃ m, m < n ∧ p m
    · obtain ⟨m, h2, h3⟩ := h1; exact ih m h2 h3
    · exact ⟨n, h, fun m hm hp => h1 ⟨m, hm, hp⟩⟩
theorem least_spec {p : Nat → Prop} {n : Nat} (h : p n) : p (least p) := by
  unfold least
  rw [dif_pos (least_ex h)]
  exact (Classical.choose_spec (least_ex h)).1
theorem least_le {p : Nat → Prop} {n : Nat} (h : p n) : least p ≤ n := by
  unfold least
  rw [dif_pos (least_ex h)]
  rcases Nat.lt_or_ge n (Classical.choose (least_ex h)) with h1 | h1
  · exact absurd h ((Classical.choose_spec (least_ex h)).2 n h1)
  · exact h1

/-- How the evaluation says that a piece of code ended. -/
def exitOf : Ex → Exit
  | .nor => .normal
  | .exit id => .exit id
  | .ret => .ret

section rules
variable {P : Program} {Q : Exit → Act → World → Prop} {a : Act} {w : World} {F : Fence} {n : Nat}

theorem wp_loop_n {c : Code} (I : Nat → Act → World → Prop) (h0 : ∀ a w, ¬ I 0 a w) (round : ∀ j a w, I (j + 1) a w → c.wpIn F n P (Exit.then (I j) Q) a w) {j : Nat} (hI : I j a w) : (Code.loop c).wpIn F n P Q a w := by
  refine wpIn_loop (I := fun a w => ∃ j, I j a w) (μ := fun a w => least (fun j => I j a w)) ⟨j, hI⟩ (fun a w h => ?_)
  obtain ⟨j, hj⟩ := h
  have hl := least_spec (p := fun j => I j a w) hj
  cases hm : least (fun j => I j a w) with
  | zero => rw [hm] at hl; exact absurd hl (h0 a w)
  | succ m =>
    rw [hm] at hl
    refine wpIn_mono (round m a w hl) (fun e a' w' he => ?_)
    cases e with
    | normal => exact ⟨⟨m, he⟩, by have := least_le (p := fun j => I j a' w') he; show least (fun j => I j a' w') < m + 1; omega⟩
    | exit _ => exact he
    | goto _ => exact he
    | ret => exact he
    | panic _ => exact he
    | outgrown => exact he

end rules
end Go.En
set_option linter.unusedSimpArgs false
set_option linter.unusedVariables false
namespace Go.En
open Go.RowKit

section
variable {P : Program} {F : Base} {w w' : World} {C C' : Cx} {h : Hp} {n : Nat}

/-- One block more that nobody writes. -/
def Cx.keep (C : Cx) (D : Nat) (o : Go.Obj) : Cx := { C with K := fun B => if B = D then some o else C.K B }

theorem Mem.keepNew (hm : Mem F C h w) (o : Go.Obj) : Mem F (C.keep w.heap.size o) h (w.alloc o) ∧ Ext h.length C (C.keep w.heap.size o) := by
  have hg := hm.grow (below_alloc' w o)
  have hlt : ∀ B o', C.K B = some o' → B < w.heap.size := fun B o' e => (Array.getElem?_eq_some_iff.1 (hm.kept B o' e)).1
  have hx : Ext h.length C (C.keep w.heap.size o) := ⟨fun _ _ e => e, fun B o' e => by
    have := hlt B o' e
    show (if B = w.heap.size then _ else _) = _
    rw [if_neg (by omega)]; exact e, rfl, fun _ _ => .inl rfl⟩
  refine ⟨⟨fun id hid => (hg.objs id hid).mono hx (Nat.le_refl _) (fun _ _ => rfl), hg.prot, hg.src, hg.sep, hg.inj, hg.lt, fun B o' e => ?_, fun B o' e id hid e' => ?_, hg.bnd, hg.fr⟩, hx⟩
  · have e : (if B = w.heap.size then some o else C.K B) = some o' := e
    split at e
    · rename_i hB; cases e; subst hB; exact heap_alloc w _
    · exact hg.kept B o' e
  · have e : (if B = w.heap.size then some o else C.K B) = some o' := e
    split at e
    · rename_i hB
      subst hB
      have := (hm.lt id _ hid e').1
      omega
    · exact hg.ksep B o' e id hid e'

/-- The record of a range over a function. -/
theorem Mem.record (hm : Mem F C h w) {lid f : Nat} {tm : Tm} {a : Act} {ps : Array Tmp} {asg body : Code} {fn D : Nat} (hc : C.L.code f lid = some (ps.toList, asg, body)) (hn : C.L.nt f = some a.tmps.size)
    (ht : ∀ i, ARep C h.length (look tm i) (a.tmps.getD i Go.undef)) :
    ∃ C', Ext h.length C C' ∧ C'.K = C.K ∧ C'.μ h.length = .loop w.heap.size h.length ∧
      Mem F C' (h ++ [.loop .ready f lid tm]) (w.alloc (.loop { state := .ready, pending := none, fn, tmps := a.tmps, params := ps, assign := asg, body, defers := D })) := by
  obtain ⟨h1, h2⟩ := hm.room [.loop .ready f lid tm]
  have hf : Free (C.cut h.length) (h ++ [.loop .ready f lid tm]) h.length (.loop .ready f lid tm) := by
    have := frees_room (C := C) (h := h) (os := [.loop .ready f lid tm]) 0 _ rfl
    simpa using this
  refine ⟨(C.cut h.length).set h.length (.loop w.heap.size h.length), h2.trans (hf.ext _ _), rfl, set_mu _ _ _, ?_⟩
  refine h1.place (below_alloc' w _) hf _ (fun B e => by cases e; simp) ?_ (fun r b e => by cases e; exact Nat.le_refl _)
  refine ⟨by simp, _, heap_alloc w _, rfl, hc, hn, fun i => ?_⟩
  exact (ht i).mono (h2.trans (hf.ext _ _)) (Nat.le_refl _)

theorem run_enterLoop {fn : FuncId} {tmps : Array Value} {ps : Array Tmp} {asg body : Code} :
    (Instr.enterLoop fn tmps ps asg body none).run P w = .ok (w.heap.size + 1, [{ target := .collected w.heap.size, args := #[] }])
      ((w.alloc (.deferred (some []))).alloc (.loop { state := .ready, pending := none, fn, tmps, params := ps, assign := asg, body, defers := w.heap.size })) := by
  simp [Instr.enterLoop]

def LS.jump : LS → Option Code
  | .done e => exitCode e
  | _ => none

theorem LS.rep_end {st : LS} {s : LoopState} {j : Option Code} (h : st.rep (s, j)) (hst : st ≠ .busy) : (s == .busy) = false ∧ j = st.jump := by
  cases st with
  | ready => simp only [LS.rep, Prod.mk.injEq] at h; rw [h.1, h.2]; exact ⟨rfl, rfl⟩
  | busy => exact absurd rfl hst
  | done e => simp only [LS.rep, Prod.mk.injEq] at h; rw [h.1, h.2]; exact ⟨rfl, rfl⟩

theorem run_getLoop {l : Nat} {L : Loop} (h : w.heap[l]? = some (.loop L)) : (Instr.getLoop l).run P w = .ok L w := by
  have h1 : (getObj l).run P w = .ok (.loop L) w := by simp [getObj, Sem.run, h]
  simp [Instr.getLoop, h1]
theorem run_setLoop {l : Nat} {o : Go.Obj} {L : Loop} (h : w.heap[l]? = some (.loop L)) : (setObj l o).run P w = .ok () { w with heap := w.heap.setIfInBounds l o } := by
  simp [setObj, Sem.run, h]

/-- The loop's state when the function that was ranged over has returned. -/
theorem run_endLoop (hm : Mem F C h w) {rid l b : Nat} (hid : rid < h.length) (hμ : C.μ rid = .loop l b) {st : LS} {f lid : Nat} {tm : Tm} (ho : h.at rid = .loop st f lid tm) (hst : st ≠ .busy) :
    ∃ w', (Instr.endLoop l).run P w = .ok st.jump w' ∧ Mem F C (h.set rid .dead) w' := by
  have h1 := hm.objs rid hid
  rw [ho, hμ] at h1
  obtain ⟨_, L, h2, h3, _, _, _⟩ := h1
  obtain ⟨q1, q2⟩ := MapKept.heap_set (w := w) (o' := Go.Obj.loop { L with state := .exhausted }) h2
  have hlt := (Array.getElem?_eq_some_iff.1 h2).1
  have hno : ∀ a v, C.M a = some v → a.block ≠ l := fun a v hv e => by
    have hc := hm.prot a v hv
    unfold World.cell? at hc
    rw [e, h2] at hc
    cases hc
  refine ⟨{ w with heap := w.heap.setIfInBounds l (.loop { L with state := .exhausted }) }, ?_, ?_⟩
  · have hs := LS.rep_end h3 hst
    rw [← hs.2]
    have hb : ¬ L.state = .busy := fun e => by
      have := hs.1
      rw [e] at this
      cases this
    simp [Instr.endLoop, run_getLoop h2, run_setLoop h2, hb]
  · refine hm.upd (C' := C) hid upd_same (fun _ _ => rfl) (Ext.refl _ _) rfl rfl rfl (by simp) (fun B _ hne => q2 B (fun e => hne (by rw [hμ, e]; rfl)))
      (fun a v hv => (World.cell?_of_block (q2 _ (hno a v hv))).trans (hm.prot a v hv)) (fun B e => .inl e) (by rw [hμ]; exact trivial) (fun B e a v hv hab => ?_)
    exact absurd (by rw [hμ] at e; cases e; exact hab) (hno a v hv)

end
end Go.En
set_option linter.unusedSimpArgs false
set_option linter.unusedVariables false
namespace Go.En
open Go.RowKit

section
variable {P : Program} {x : X} {L : LoopTab}

/-- What is known where a function's code is gone through. -/
structure Here (L : LoopTab) (P : Program) (x : X) (A : At) : Prop extends Known L P x where
  L0 : A.C0.L = L
  mix : P.follows .mixedOrders = true
  nt : x.nt = A.nt
  rn : x.rnd = false → A.rn = none
  code : L.code = x.T.loops
  num : L.nt x.f = some x.nt

theorem rangek_inv {s : St} {o : Obj} {h : Hp} {e : Ex} {s' : St} (hr : rangek s o h = some (e, s')) : s' = ⟨s.tm, h⟩ ∧ ∃ st f lid tm, o = .loop st f lid tm ∧ st ≠ .busy ∧ st.jump = exitCode e := by
  unfold rangek at hr
  split at hr
  · cases hr; exact ⟨rfl, .ready, _, _, _, rfl, by simp, rfl⟩
  · cases hr; exact ⟨rfl, .done _, _, _, _, rfl, by simp, rfl⟩
  · cases hr

theorem range_sound {A : At} (hH : Here L P x A) {g : Operand} {ps : Array Tmp} {asg body : Code} {id : Nat} (hloop : x.T.loops x.f id = some (ps.toList, asg, body)) {s : St} {e : Ex} {s' : St}
    (he : evc x (.rangeFunc g ps asg body) id s = some (e, s')) {a : Act} {w : World} (hs : Stands A s a w) {Q : Exit → Act → World → Prop} (hq : ∀ a w, Stands A s' a w → Q (exitOf e) a w) :
    (Code.rangeFunc g ps asg body).wpIn (FW A.rn) 0 P Q a w := by
  obtain ⟨C, hr⟩ := hs
  simp only [evc] at he
  split at he
  case isFalse => cases he
  rename_i hc
  obtain ⟨hrnd, hk⟩ := hc
  have hrn := hH.rn hrnd
  rw [hrn]
  obtain ⟨⟨fi, cs⟩, hcal, he⟩ := obind_inv he
  obtain ⟨r, hcall, he⟩ := obind_inv he
  simp only at hcall he
  obtain ⟨rfl, st, f', lid', tm', hob, hst, hjump⟩ := rangek_inv he
  obtain ⟨caps, hv, hcsz, hcr⟩ := calleeOf_rep hcal (opd (a := a) hr.tm hk)
  -- the block for the rounds' deferred calls
  obtain ⟨m1, x1⟩ := hr.mem.keepNew (.deferred (some []))
  -- what is shown
  generalize hmu : x.T.muts fi = mu at hcall
  obtain ⟨b1, b2⟩ := bs_rep (rd := s.hp) m1 (fun _ _ => rfl) hcsz (fun k hk => (hcr k hk).mono x1 (Nat.le_refl _)) mu
  have m2 := m1.share (idsOf mu cs)
  have x2 : Ext s.hp.length C ((C.keep w.heap.size (.deferred (some []))).withM (shown (C.keep w.heap.size (.deferred (some []))) s.hp (idsOf mu cs) (w.alloc (.deferred (some []))))) := x1.trans (shown_ext _ _)
  generalize hC2 : (C.keep w.heap.size (.deferred (some []))).withM (shown (C.keep w.heap.size (.deferred (some []))) s.hp (idsOf mu cs) (w.alloc (.deferred (some [])))) = C2 at m2 x2 b2
  have hK2 : C2.K w.heap.size = some (.deferred (some [])) := by rw [← hC2]; show (if w.heap.size = w.heap.size then _ else _) = _; rw [if_pos rfl]
  have hsl := share_length (h := s.hp) (idsOf mu cs)
  intro b k ctx hro hb hroom
  refine wpIn_rangeFunc (F := FW none) (fun fn _ => ?_) b k ctx hro hb hroom
  obtain ⟨C3, x3, hK3, hμ3, m3⟩ := m2.record (lid := id) (f := x.f) (tm := s.tm) (a := a) (ps := ps) (asg := asg) (body := body) (fn := fn) (D := w.heap.size)
    (by rw [x2.L, hr.ext.L, hH.L0, hH.code]; exact hloop) (by rw [x2.L, hr.ext.L, hH.L0, hr.size, ← hH.nt]; exact hH.num) (fun i => by rw [hsl]; exact (hr.tm i).mono x2 (Nat.le_refl _))
  rw [hsl] at x3 hμ3
  have hwsz : (w.alloc (.deferred (some []))).heap.size = w.heap.size + 1 := by simp
  rw [hwsz] at hμ3
  have hL3 : C3.L = L := by rw [x3.L, x2.L, hr.ext.L]; exact hH.L0
  have hok := hH.calls _ _ _ _ hcall
  have hreps : ∀ j, j < (bsOf mu s.hp (.yl s.hp.length :: cs)).length → ARep C3 (share s.hp (idsOf mu cs) ++ [Obj.loop .ready x.f id s.tm]).length ((bsOf mu s.hp (.yl s.hp.length :: cs)).getD j .undef) (((#[Value.func (.yield (w.heap.size + 1)) #[] #[]] : Array Value) ++ caps).getD j Go.undef) := by
    have e : bsOf mu s.hp (.yl s.hp.length :: cs) = .yl s.hp.length :: bsOf mu s.hp cs := by cases mu <;> rfl
    rw [e]
    intro j hj
    cases j with
    | zero =>
      have : ((#[Value.func (.yield (w.heap.size + 1)) #[] #[]] : Array Value) ++ caps).getD 0 Go.undef = .func (.yield (w.heap.size + 1)) #[] #[] := by
        rw [Array.getD_eq_getD_getElem?, Array.getElem?_append_left (by simp)]
        rfl
      rw [this]
      exact .yl _ _ _ (by simp [hsl]) hμ3
    | succ j =>
      have h1 := b2 j (by simpa using hj)
      have : ((#[Value.func (.yield (w.heap.size + 1)) #[] #[]] : Array Value) ++ caps).getD (j + 1) Go.undef = caps.getD j Go.undef := by
        simp only [Array.getD_eq_getD_getElem?]
        rw [Array.getElem?_append_right (by simp)]
        simp
      rw [this]
      exact h1.mono x3 (by simp [hsl])
  have hsize : ((#[Value.func (.yield (w.heap.size + 1)) #[] #[]] : Array Value) ++ caps).size = (bsOf mu s.hp (.yl s.hp.length :: cs)).length := by
    have e : bsOf mu s.hp (.yl s.hp.length :: cs) = .yl s.hp.length :: bsOf mu s.hp cs := by cases mu <;> rfl
    rw [e]
    simp
    omega
  have hent := run_enterLoop (P := P) (w := w) (fn := fn) (tmps := a.tmps) (ps := ps) (asg := asg) (body := body)
  generalize hw1 : ((w.alloc (.deferred (some []))).alloc (.loop { state := .ready, pending := none, fn, tmps := a.tmps, params := ps, assign := asg, body, defers := w.heap.size })) = w1 at hent m3
  refine ⟨w.heap.size + 1, _, w1, { target := .fn (.func fi) caps, args := #[.func (.yield (w.heap.size + 1)) #[] #[]] }, w1, fi, #[.func (.yield (w.heap.size + 1)) #[] #[]] ++ caps, w1, hent, ?_, fun f' _ => FW_fn none f', ?_, (fun h => by cases h), ?_⟩
  · have e : resolve a.eval (rangeCall g (w.heap.size + 1)) 0 = Deferred.ofValue (a.eval g) #[.func (.yield (w.heap.size + 1)) #[] #[]] := by
      simp only [resolve, rangeCall, List.map_toArray, List.map_cons, List.map_nil]
      rfl
    rw [e, hv]
    simp [Deferred.ofValue]
  · obtain ⟨fn', h1, h2, h3⟩ := hok.fn
    have h2' : ¬ (fn'.body = none) := by
      intro e
      rw [e] at h2
      cases h2
    have h3' : ¬ (fn'.name = "runtime.NumGoroutine") := by simpa using h3
    simp [invoke, callFunc, h1, h2', h3']
  · refine callsIn_FW.2 ((hok.calls _ C3 _ hL3 m3.before hsize hreps).mono fun en w3 hen => ?_)
    cases en with
    | panicked _ => exact hen.elim
    | outgrown => exact hen.elim
    | returned u =>
      obtain ⟨C4, x4, hK4, m4, _, _⟩ := hen
      have m4' := m3.after m4
      have hridlt : s.hp.length < r.2.length := by
        have := hok.len
        simp [hsl] at this
        omega
      have hμ4 : C4.μ s.hp.length = .loop (w.heap.size + 1) s.hp.length := by
        rcases x4.μ s.hp.length (by simp [hsl]) with e1 | ⟨g1, g2, e1, _⟩ | e1
        · rw [e1]; exact hμ3
        · rw [hμ3] at e1; cases e1
        · rw [hμ3] at e1; cases e1
      obtain ⟨w4, h5, m5⟩ := run_endLoop (P := P) m4' hridlt hμ4 hob hst
      rw [hjump] at h5
      have xall : Ext s.hp.length C C4 := x2.trans (x3.trans (x4.le (by simp [hsl])))
      have hstand : Stands A ⟨s.tm, r.2.set s.hp.length .dead⟩ { a with defers := [{ target := .collected w.heap.size, args := #[] }] ++ a.defers } w4 := by
        refine ⟨C4, hr.size, ⟨⟨w.heap.size, rfl, ?_, hr.mem.fr.size, fun d' hd' e => ?_⟩, hr.defers.mono xall.K⟩, fun i => ?_, m5, hr.ext.trans (xall.le hr.len), ?_⟩
        · exact x4.K _ _ (x3.K _ _ hK2)
        · -- an elder mark lies below
          have : ∀ (ds : List Deferred), Marks A.F.w0 C ds → ∀ d ∈ ds, ∃ D, d = { target := .collected D, args := #[] } ∧ D < w.heap.size := by
            intro ds
            induction ds with
            | nil => intro _ d hd; cases hd
            | cons d0 ds ih =>
              rintro ⟨⟨D, h6, h7, _⟩, h8⟩ d hd
              cases hd with
              | head => exact ⟨D, h6, (Array.getElem?_eq_some_iff.1 (hr.mem.kept D _ h7)).1⟩
              | tail _ hd => exact ih h8 d hd
          obtain ⟨D, h6, h7⟩ := this _ hr.defers d' hd'
          rw [e] at h6
          simp only [Deferred.mk.injEq, Target.collected.injEq, and_true] at h6
          omega
        · show ARep C4 (r.2.set s.hp.length .dead).length (look s.tm i) (a.tmps.getD i Go.undef)
          exact (hr.tm i).mono xall (by simp; omega)
        · show A.n0 ≤ (r.2.set s.hp.length .dead).length
          have := hr.len
          simp; omega
      refine ⟨_, w4, h5, ?_⟩
      cases e with
      | nor => exact hq _ _ hstand
      | exit i => exact wpIn_exit (hq _ _ hstand)
      | ret => exact wpIn_ret (hq _ _ hstand)

end
end Go.En
set_option linter.unusedSimpArgs false
set_option linter.unusedVariables false
namespace Go.En
open Go.RowKit

section
variable {P : Program} {x : X} {L : LoopTab}

theorem evc_sound : ∀ (c : Code) (id : Nat) (s : St) (e : Ex) (s' : St) (A : At) (Q : Exit → Act → World → Prop) (a : Act) (w : World),
    Here L P x A → bodyOk x.T x.f c = true → loopsOk x.T x.f c id → evc x c id s = some (e, s') → Stands A s a w → (∀ a w, Stands A s' a w → Q (exitOf e) a w) → c.wpIn (FW A.rn) 0 P Q a w := by
  intro c
  induction c with
  | skip =>
    intro id s e s' A Q a w hH hb hl he hs hq
    simp only [evc] at he
    cases he
    exact wpIn_skip (hq a w hs)
  | label l =>
    intro id s e s' A Q a w hH hb hl he hs hq
    simp only [evc] at he
    cases he
    exact wpIn_label (hq a w hs)
  | region rid ops draw =>
    intro id s e s' A Q a w hH hb hl he hs hq
    simp only [evc] at he
    obtain ⟨s1, h1, he⟩ := obind_inv he
    cases he
    exact evReg_sound hH.toKnown hH.L0 hH.mix hH.nt hb h1 hs hq
  | seq c1 c2 ih1 ih2 =>
    intro id s e s' A Q a w hH hb hl he hs hq
    simp only [bodyOk, Bool.and_eq_true] at hb
    simp only [evc] at he
    refine wpIn_seq ?_
    cases h1 : evc x c1 0 s with
    | none => rw [h1] at he; cases he
    | some r =>
      obtain ⟨e1, s1⟩ := r
      rw [h1] at he
      refine ih1 0 s e1 s1 A _ a w hH hb.1 hl.1 h1 hs (fun a w h2 => ?_)
      cases e1 with
      | nor => exact ih2 0 s1 e s' A Q a w hH hb.2 hl.2 he h2 hq
      | exit i => cases he; exact hq a w h2
      | ret => cases he; exact hq a w h2
  | cond c c1 c2 ih1 ih2 =>
    intro id s e s' A Q a w hH hb hl he hs hq
    simp only [bodyOk, Bool.and_eq_true] at hb
    simp only [evc] at he
    split at he
    · rename_i t hc
      have hv : a.eval c = .bool t := by
        obtain ⟨C, hr⟩ := hs
        have := evo_rep hr.tm c
        rw [hc] at this
        exact bool_inv this
      refine wpIn_cond hv ?_
      cases t with
      | true => exact ih1 0 s e s' A Q a w hH hb.1 hl.1 (by simpa using he) hs hq
      | false => exact ih2 0 s e s' A Q a w hH hb.2 hl.2 (by simpa using he) hs hq
    · cases he
  | block bid c ih =>
    intro id s e s' A Q a w hH hb hl he hs hq
    simp only [evc] at he
    refine wpIn_block ?_
    cases h1 : evc x c bid s with
    | none => rw [h1] at he; cases he
    | some r =>
      obtain ⟨e1, s1⟩ := r
      rw [h1] at he
      refine ih bid s e1 s1 A _ a w hH hb hl h1 hs (fun a w h2 => ?_)
      cases e1 with
      | nor => cases he; exact hq a w h2
      | ret => cases he; exact hq a w h2
      | exit i =>
        simp only [blockk] at he
        simp only [exitOf, Exit.inBlock]
        split at he
        · rename_i hi; cases he; rw [if_pos hi]; exact hq a w h2
        · rename_i hi; cases he; rw [if_neg hi]; exact hq a w h2
  | loop c ih =>
    intro id s e s' A Q a w hH hb hl he hs hq
    simp only [evc] at he
    obtain ⟨C, hr⟩ := hs
    let A' : At := ⟨A.F, C, s.hp.length, A.nt, A.rn⟩
    have hH' : Here L P x A' := { hH with L0 := hr.ext.L.trans hH.L0, nt := hH.nt, rn := hH.rn }
    have back : ∀ {s1 : St} {a : Act} {w : World}, Stands A' s1 a w → Stands A s1 a w := fun ⟨C1, h1⟩ =>
      ⟨C1, h1.size, h1.defers, h1.tm, h1.mem, hr.ext.trans (h1.ext.le hr.len), Nat.le_trans hr.len h1.len⟩
    refine wp_loop_n (I := fun n a w => ∃ s1, iter (evc x c 0) (x.T.keep x.f id) s.hp.length n s1 = some (e, s') ∧ Stands A' s1 a w) ?_ ?_ (j := x.fuel) ⟨s, he, C, hr.size, hr.defers, hr.tm, hr.mem, Ext.refl _ _, Nat.le_refl _⟩
    · rintro a w ⟨s1, h1, _⟩
      cases h1
    · rintro n a w ⟨s1, h1, h2⟩
      have hlen : s.hp.length ≤ s1.hp.length := by
        obtain ⟨C1, h3⟩ := h2
        exact h3.len
      have h3 := h2.norm (ks := x.T.keep x.f id) (m := s.hp.length) (Nat.le_refl _) hlen
      simp only [iter] at h1
      cases h4 : evc x c 0 (norm (x.T.keep x.f id) s.hp.length s1) with
      | none => rw [h4] at h1; cases h1
      | some r =>
        obtain ⟨e1, s2⟩ := r
        rw [h4] at h1
        refine ih 0 _ e1 s2 A' _ a w hH' hb hl h4 h3 (fun a w h5 => ?_)
        have hlen2 : s.hp.length ≤ s2.hp.length := by
          obtain ⟨C1, h3⟩ := h5
          exact h3.len
        cases e1 with
        | nor => exact ⟨s2, h1, h5⟩
        | exit i => cases h1; exact hq a w (back (h5.norm (Nat.le_refl _) hlen2))
        | ret => cases h1; exact hq a w (back (h5.norm (Nat.le_refl _) hlen2))
  | rangeFunc g ps asg body ih1 ih2 =>
    intro id s e s' A Q a w hH hb hl he hs hq
    exact range_sound hH hl.1 he hs hq
  | exit i =>
    intro id s e s' A Q a w hH hb hl he hs hq
    simp only [evc] at he
    cases he
    exact wpIn_exit (hq a w hs)
  | ret =>
    intro id s e s' A Q a w hH hb hl he hs hq
    simp only [evc] at he
    cases he
    exact wpIn_ret (hq a w hs)
  | _ =>
    intro id s e s' A Q a w hH hb hl he hs hq
    simp only [evc] at he
    cases he

end
end Go.En
set_option linter.unusedSimpArgs false
set_option linter.unusedVariables false
namespace Go.En
open Go.RowKit

section
variable {P : Program} {F : Base} {w w' : World} {C C' : Cx} {h : Hp} {n : Nat}

/-- The same, with other blocks that nobody writes. -/
def Cx.reK (C : Cx) (K : Nat → Option Go.Obj) : Cx := { C with K := K }

theorem ARep.reK {K : Nat → Option Go.Obj} {x : AV} {v : Value} (r : ARep C n x v) : ARep (C.reK K) n x v := by
  induction r with
  | p x v h => exact .p _ _ h
  | agg cs vs h1 _ ih => exact .agg cs vs h1 ih
  | ref id off B h1 h2 => exact .ref _ _ _ h1 h2
  | arr id g off len B o cap sz a h1 h2 h3 h4 => exact .arr _ _ _ _ _ _ _ _ _ h1 h2 h3 h4
  | arrN id g h1 h2 => exact .arrN _ _ h1 h2
  | arrS id g off len g' a cap h1 h2 h3 => exact .arrS _ _ _ _ _ _ _ h1 h2 h3
  | elt id g i off B o cap sz h1 h2 => exact .elt _ _ _ _ _ _ _ _ h1 h2
  | eltS id g i off g' B o h1 h2 h3 => exact .eltS _ _ _ _ _ _ _ h1 h2 h3
  | fn f cs vs h1 _ ih => exact .fn f cs vs h1 ih
  | map id r h1 h2 => exact .map _ _ h1 h2
  | yl id r b h1 h2 => exact .yl _ _ _ h1 h2
  | tup vs xs h1 _ ih => exact .tup vs xs h1 ih
  | gdT v x _ ih => exact .gdT v x ih
  | gdF v => exact .gdF v
  | undef v => exact .undef v

theorem ORep.reK {K : Nat → Option Go.Obj} {c : Cn} {o : Obj} (r : ORep C n w c o) : ORep (C.reK K) n w c o := by
  cases o with
  | dead => cases c <;> exact trivial
  | box cs =>
    cases c with
    | box B =>
      obtain ⟨c, T, h1, h2, h3, h4⟩ := r
      exact ⟨c, T, h1, h2, h3, fun k hk => (h4 k hk).reK⟩
    | none => exact trivial
    | _ => exact r.elim
  | arr g sz sh es => cases c <;> first | exact r | exact r.elim
  | map es => cases c <;> first | exact r | exact r.elim
  | loop st f lid tm =>
    cases c with
    | loop l b =>
      obtain ⟨h0, L, h1, h2, h4, h5, h6⟩ := r
      exact ⟨h0, L, h1, h2, h4, h5, fun i => (h6 i).reK⟩
    | none => exact trivial
    | _ => exact r.elim

theorem Mem.reK (hm : Mem F C h w) {K : Nat → Option Go.Obj} (hk : ∀ B o, K B = some o → C.K B = some o) : Mem F (C.reK K) h w :=
  ⟨fun id hid => (hm.objs id hid).reK, hm.prot, hm.src, hm.sep, hm.inj, hm.lt, fun B o e => hm.kept B o (hk B o e), fun B o e id hid => hm.ksep B o (hk B o e) id hid, hm.bnd, hm.fr⟩

/-- A record of a range over a function turns. -/
theorem Mem.turn (hm : Mem F C h w) {id l b : Nat} (hid : id < h.length) (hμ : C.μ id = .loop l b) {st st' : LS} {f lid : Nat} {tm : Tm} (ho : h.at id = .loop st f lid tm) :
    ∃ Lp : Loop, w.heap[l]? = some (.loop Lp) ∧ st.rep (Lp.state, Lp.pending) ∧ ∀ s' j', st'.rep (s', j') →
      Mem F C (h.set id (.loop st' f lid tm)) { w with heap := w.heap.setIfInBounds l (.loop { Lp with state := s', pending := j' }) } := by
  have h1 := hm.objs id hid
  rw [ho, hμ] at h1
  obtain ⟨h0, L, h2, h3, h4, h5, h6⟩ := h1
  refine ⟨L, h2, h3, fun s' j' hrep => ?_⟩
  obtain ⟨q1, q2⟩ := MapKept.heap_set (w := w) (o' := Go.Obj.loop { L with state := s', pending := j' }) h2
  have hno : ∀ a v, C.M a = some v → a.block ≠ l := fun a v hv e => by
    have hc := hm.prot a v hv
    unfold World.cell? at hc
    rw [e, h2] at hc
    cases hc
  refine hm.upd (C' := C) hid upd_same (fun _ _ => rfl) (Ext.refl _ _) rfl rfl rfl (by simp) (fun B _ hne => q2 B (fun e => hne (by rw [hμ, e]; rfl)))
    (fun a v hv => (World.cell?_of_block (q2 _ (hno a v hv))).trans (hm.prot a v hv)) (fun B e => .inl e) (by rw [hμ]; exact ⟨h0, _, q1, hrep, h4, h5, h6⟩) (fun B e a v hv hab => ?_)
  exact absurd (by rw [hμ] at e; cases e; exact hab) (hno a v hv)

theorem putAll_look : ∀ (ps : List Nat) (as : List AV) (tm : Tm) (tmps : Array Value) (vs : List Value), as.length = ps.length → vs.length = ps.length → (∀ p ∈ ps, p < tmps.size) →
    (∀ i, ARep C n (look tm i) (tmps.getD i Go.undef)) → (∀ k, k < as.length → ARep C n (as.getD k .undef) (vs.getD k Go.undef)) →
    ((ps.zip vs).foldl (fun t (p : Nat × Value) => t.setIfInBounds p.1 p.2) tmps).size = tmps.size ∧ ∀ i, ARep C n (look (putAll tm ps as) i) (((ps.zip vs).foldl (fun t (p : Nat × Value) => t.setIfInBounds p.1 p.2) tmps).getD i Go.undef)
  | [], as, tm, tmps, vs, h1, h2, h3, h4, h5 => by
    have : as = [] := List.eq_nil_of_length_eq_zero (by simpa using h1)
    subst this
    exact ⟨by simp, fun i => by simpa [putAll] using h4 i⟩
  | p :: ps, [], tm, tmps, vs, h1, h2, h3, h4, h5 => by simp at h1
  | p :: ps, a :: as, tm, tmps, [], h1, h2, h3, h4, h5 => by simp at h2
  | p :: ps, a :: as, tm, tmps, v :: vs, h1, h2, h3, h4, h5 => by
    have hp := h3 p (by simp)
    obtain ⟨g1, g2⟩ := putAll_look ps as (put tm p a) (tmps.setIfInBounds p v) vs (by simpa using h1) (by simpa using h2) (fun q hq => by simpa using h3 q (by simp [hq])) (fun i => by
      rw [look_put]
      simp only [Array.getD_eq_getD_getElem?, Array.getElem?_setIfInBounds]
      by_cases e : p = i
      · subst e
        have := h5 0 (by simp)
        simpa [hp] using this
      · simp only [e, if_false]
        simpa [Array.getD_eq_getD_getElem?] using h4 i) (fun k hk => by simpa using h5 (k + 1) (by simpa using hk))
    refine ⟨by simpa using g1, fun i => ?_⟩
    simpa [putAll] using g2 i

theorem askk_inv {r : Option (Ex × St)} {k : Ex → St → Option (Bool × Hp)} {q : Bool × Hp} (h : askk r k = some q) : ∃ e s, r = some (e, s) ∧ k e s = some q := by
  cases r with
  | none => cases h
  | some p => exact ⟨p.1, p.2, rfl, h⟩

end
end Go.En
set_option linter.unusedSimpArgs false
set_option linter.unusedVariables false
namespace Go.En
open Go.RowKit

section
variable {P : Program} {L : LoopTab} {T : Tab} {fs : Nat → Option Func} {call : CallF} {yield : YieldF}

theorem run_beginRound {w : World} {l : Nat} {Lp : Loop} (h : w.heap[l]? = some (.loop Lp)) (hs : Lp.state = .ready) :
    (Instr.beginRound l).run P w = .ok () { w with heap := w.heap.setIfInBounds l (.loop { Lp with state := .busy }) } := by
  simp [Instr.beginRound, run_getLoop h, run_setLoop h, hs]

theorem run_endRound {w : World} {l : Nat} {Lp : Loop} {j : Option Code} (h : w.heap[l]? = some (.loop Lp)) :
    (Instr.endRound l j).run P w = .ok (.bool j.isNone) { w with heap := w.heap.setIfInBounds l (.loop { Lp with state := if j.isNone = true then .ready else .done, pending := j }) } := by
  simp [Instr.endRound, run_getLoop h, run_setLoop h]

theorem yield_sound {fuel : Nat} (hT : T.Ok P) (hcalls : ∀ f as h r, call f as h = some r → CallOk L T.fresh P f as h r) (hyields : ∀ id as h r, yield id as h = some r → YieldOk L P id as h r) (hmix : P.follows .mixedOrders = true)
    (hcode : L.code = T.loops) (hnum : ∀ f fn, fs f = some fn → L.nt f = some fn.ntmps) (hbody : ∀ f lid l, T.loops f lid = some l → bodyOk T f l.2.1 = true ∧ bodyOk T f l.2.2 = true ∧ loopsOk T f l.2.1 0 ∧ loopsOk T f l.2.2 0)
    {id : Nat} {as : List AV} {h : Hp} {r : Bool × Hp} (he : yieldF T fs call yield fuel id as h = some r) : YieldOk L P id as h r := by
  unfold yieldF at he
  split at he
  case h_2 => cases he
  rename_i f lid tm ho
  obtain ⟨lp, hlp, he⟩ := obind_inv he
  obtain ⟨fn, hfn, he⟩ := obind_inv he
  unfold round at he
  split at he
  case isFalse => cases he
  rename_i hc
  obtain ⟨hlen, hps⟩ := hc
  obtain ⟨e1, s1, h1, he⟩ := askk_inv he
  cases e1 with
  | exit _ => cases he
  | ret => cases he
  | nor =>
  obtain ⟨h2, hbeg, he⟩ := obind_inv he
  obtain ⟨e2, s2, h3, he⟩ := askk_inv he
  split at he
  case isFalse => cases he
  rename_i hle
  have hend := he
  obtain ⟨hb1, hb2, hl1, hl2⟩ := hbody f lid lp hlp
  -- the records
  have hbeg' : ∃ f' lid' tm', s1.hp.at id = .loop .ready f' lid' tm' ∧ h2 = s1.hp.set id (.loop .busy f' lid' tm') := by
    unfold roundBegin at hbeg
    split at hbeg
    · rename_i f' lid' tm' e; cases hbeg; exact ⟨f', lid', tm', e, rfl⟩
    · cases hbeg
  obtain ⟨f1, lid1, tm1, hat1, rfl⟩ := hbeg'
  have hend' : ∃ f' lid' tm', s2.hp.at id = .loop .busy f' lid' tm' ∧ ((e2 = .nor ∧ r = (true, s2.hp.set id (.loop .ready f' lid' tm'))) ∨ (e2 ≠ .nor ∧ r = (false, s2.hp.set id (.loop (.done e2) f' lid' tm')))) := by
    unfold roundEnd at hend
    split at hend
    · rename_i f' lid' tm' e
      refine ⟨f', lid', tm', e, ?_⟩
      cases e2 with
      | nor => cases hend; exact .inl ⟨rfl, rfl⟩
      | exit i => cases hend; exact .inr ⟨by simp, rfl⟩
      | ret => cases hend; exact .inr ⟨by simp, rfl⟩
    · cases hend
  obtain ⟨f2, lid2, tm2, hat2, hr⟩ := hend'
  have hrlen : r.2.length = s2.hp.length := by rcases hr with ⟨_, rfl⟩ | ⟨_, rfl⟩ <;> simp
  refine ⟨by omega, fun w C vs l b hL hm hid hμ hs hreps => ?_⟩
  · have ho' := hm.objs id hid
    rw [ho, hμ] at ho'
    obtain ⟨h0, Lp, q1, q2, q3, q4, q5⟩ := ho'
    rw [hL, hcode, hlp] at q3
    cases q3
    rw [hL, hnum f fn hfn] at q4
    have hsz : Lp.tmps.size = fn.ntmps := by simpa using q4.symm
    simp only [LS.rep, Prod.mk.injEq] at q2
    let A : At := ⟨⟨w, ownB C h, C.M⟩, C, h.length, fn.ntmps, some l⟩
    let x : X := ⟨T, call, yield, f, fn.ntmps, fuel, true⟩
    have hH : Here L P x A := { T := hT, calls := hcalls, yields := hyields, L0 := hL, mix := hmix, nt := rfl, rn := (fun e => by cases e), code := hcode, num := hnum f fn hfn }
    have hpl : ∀ p ∈ Lp.params.toList, p < Lp.tmps.size := fun p hp => by
      simp only [List.all_eq_true, decide_eq_true_eq] at hps
      have := hps p hp
      rw [hsz]; exact this
    obtain ⟨g1, g2⟩ := putAll_look (C := C) (n := h.length) Lp.params.toList as tm Lp.tmps vs.toList hlen (by simpa using hs.trans hlen) hpl (fun i => (q5 i).mono (Ext.refl _ _) h0) (fun k hk => by
      have := hreps k hk
      simpa [List.getD_eq_getElem?_getD, Array.getD_eq_getD_getElem?] using this)
    have htm : ((Lp.params.zip vs).foldl (fun tmps (p : Nat × Value) => tmps.setIfInBounds p.1 p.2) Lp.tmps) = (Lp.params.toList.zip vs.toList).foldl (fun t (p : Nat × Value) => t.setIfInBounds p.1 p.2) Lp.tmps := by
      rw [← Array.foldl_toList, Array.toList_zip]
    refine ⟨Lp.fn, (Lp.params.toList.zip vs.toList).foldl (fun t (p : Nat × Value) => t.setIfInBounds p.1 p.2) Lp.tmps, Lp.assign, Lp.body, ?_, roundIn_of_wpIn (F := Fence.wide) trivial ?_⟩
    · have : vs.size = Lp.params.size := by simpa using hs.trans hlen
      simp only [Instr.yield, Sem.run_bind, run_getLoop q1, Result.andThen_ok]
      rw [if_neg (by simpa using this)]
      rw [← htm]
      rfl
    · have hstart : Stands A ⟨putAll tm Lp.params.toList as, h⟩ { tmps := (Lp.params.toList.zip vs.toList).foldl (fun t (p : Nat × Value) => t.setIfInBounds p.1 p.2) Lp.tmps, defers := [] } w :=
        ⟨C, g1.trans hsz, trivial, g2, hm, Ext.refl _ _, Nat.le_refl _⟩
      refine evc_sound Lp.assign 0 _ .nor s1 A _ _ w hH hb1 hl1 h1 hstart (fun a1 w1 hs1 => ?_)
      obtain ⟨C1, r1⟩ := hs1
      have hid1 : id < s1.hp.length := Nat.lt_of_lt_of_le hid r1.len
      have mu : ∀ {Ck : Cx}, Ext h.length C Ck → Ck.μ id = .loop l b := fun {Ck} hx => by
        rcases hx.μ id hid with e1 | ⟨_, _, e1, _⟩ | e1
        · rw [e1]; exact hμ
        · rw [hμ] at e1; cases e1
        · rw [hμ] at e1; cases e1
      obtain ⟨Lp1, t1, t2, t3⟩ := r1.mem.turn (st' := .busy) hid1 (mu r1.ext) hat1
      simp only [LS.rep, Prod.mk.injEq] at t2
      refine ⟨_, run_beginRound t1 t2.1, ?_⟩
      have m2 := t3 .busy none rfl
      have hstand2 : Stands A ⟨s1.tm, s1.hp.set id (.loop .busy f1 lid1 tm1)⟩ a1 { w1 with heap := w1.heap.setIfInBounds l (.loop { Lp1 with state := .busy, pending := none }) } :=
        ⟨C1, r1.size, r1.defers, fun i => by show ARep C1 (s1.hp.set id _).length _ _; rw [List.length_set]; exact r1.tm i, m2, r1.ext, by show h.length ≤ (s1.hp.set id _).length; rw [List.length_set]; exact r1.len⟩
      have eL : ({ Lp1 with state := .busy } : Loop) = { Lp1 with state := .busy, pending := none } := by rw [← t2.2]
      rw [eL]
      refine evc_sound Lp.body 0 _ e2 s2 A _ _ _ hH hb2 hl2 h3 hstand2 (fun a2 w2 hs2 => ?_)
      obtain ⟨C2, r2⟩ := hs2
      have hid2 : id < s2.hp.length := Nat.lt_of_lt_of_le hid r2.len
      have fin : ∀ (st' : LS) (s' : LoopState) (j' : Option Code) (Lp2 : Loop), Mem A.F C2 (s2.hp.set id (.loop st' f2 lid2 tm2)) { w2 with heap := w2.heap.setIfInBounds l (.loop { Lp2 with state := s', pending := j' }) } → r.2 = s2.hp.set id (.loop st' f2 lid2 tm2) →
          ∃ C', Ext h.length C C' ∧ C'.K = C.K ∧ Mem ⟨w, ownB C h, C.M⟩ C' r.2 { w2 with heap := w2.heap.setIfInBounds l (.loop { Lp2 with state := s', pending := j' }) } := fun st' s' j' Lp2 m e => by
        rw [e]
        exact ⟨C2.reK C.K, ⟨r2.ext.M, fun _ _ h => h, r2.ext.L, r2.ext.μ⟩, rfl, m.reK (fun B o h => r2.ext.K B o h)⟩
      rcases hr with ⟨rfl, hr⟩ | ⟨hne, hr⟩
      · obtain ⟨Lp2, u1, u2, u3⟩ := r2.mem.turn (st' := .ready) hid2 (mu r2.ext) hat2
        refine ⟨_, _, run_endRound u1, ?_⟩
        exact ⟨by rw [hr]; rfl, fin .ready _ _ Lp2 (u3 _ _ rfl) (by rw [hr])⟩
      · obtain ⟨Lp2, u1, u2, u3⟩ := r2.mem.turn (st' := .done e2) hid2 (mu r2.ext) hat2
        cases e2 with
        | nor => exact absurd rfl hne
        | exit i =>
          refine ⟨_, _, run_endRound u1, ?_⟩
          exact ⟨by rw [hr]; rfl, fin (.done (.exit i)) _ _ Lp2 (u3 _ _ rfl) (by rw [hr])⟩
        | ret =>
          refine ⟨_, _, run_endRound u1, ?_⟩
          exact ⟨by rw [hr]; rfl, fin (.done .ret) _ _ Lp2 (u3 _ _ rfl) (by rw [hr])⟩

end
end Go.En
set_option linter.unusedSimpArgs false
namespace Go.En
open Go.RowKit

section
variable {P : Program} {T : Tab} {F : Base} {w : World} {C : Cx} {h : Hp} {n m : Nat}

/-- The cells of blocks that are no one's any more. -/
def goneCell (C : Cx) (h : Hp) (m : Nat) (a : Addr) : Prop := ∃ id, m ≤ id ∧ id < h.length ∧ (C.μ id).blk = some a.block

open Classical in
noncomputable def gone (C : Cx) (h : Hp) (m : Nat) (w : World) (a : Addr) : Option Value :=
  match C.M a with
  | some v => some v
  | none => if goneCell C h m a then w.cell? a else none

theorem gone_old {a : Addr} {v : Value} (e : C.M a = some v) : gone C h m w a = some v := by simp [gone, e]
theorem gone_inv {a : Addr} {v : Value} (e : gone C h m w a = some v) : C.M a = some v ∨ (goneCell C h m a ∧ w.cell? a = some v) := by
  unfold gone at e
  split at e
  · rename_i u hu; cases e; exact .inl hu
  · split at e
    · exact .inr ⟨by assumption, e⟩
    · cases e
theorem gone_cell (hm : Mem F C h w) {a : Addr} (hg : goneCell C h m a) {v : Value} (hc : w.cell? a = some v) : gone C h m w a = some v := by
  unfold gone
  split
  · rename_i u hu
    have := hm.prot _ _ hu
    rw [hc] at this; exact this.symm
  · rw [if_pos hg]; exact hc

theorem gone_ext (n : Nat) : Ext n C (C.withM (gone C h m w)) := ⟨fun _ _ e => gone_old e, fun _ _ e => e, rfl, fun _ _ => .inl rfl⟩

theorem Mem.gone (hm : Mem F C h w) (hle : m ≤ h.length) : Mem F (C.withM (gone C h m w)) ((h.take m).map (lowO m)) w := by
  have hl : ((h.take m).map (lowO m)).length = m := by simp; omega
  have hm1 := hm.low hle
  refine ⟨fun id hid => (hm1.objs id hid).mono (gone_ext _) (Nat.le_refl _) (fun _ _ => rfl), fun a v e => ?_, fun a v e => ?_, fun id B hid e a v hv hab => ?_, hm1.inj, hm1.lt, hm1.kept, hm1.ksep, hm1.bnd, hm1.fr⟩
  · rcases gone_inv e with e | ⟨_, e⟩
    · exact hm.prot a v e
    · exact e
  · rcases gone_inv e with e | ⟨⟨id, h1, h2, h3⟩, _⟩
    · exact hm.src a v e
    · rcases (hm.lt id _ h2 h3).2 with h4 | h4
      · exact .inr (.inl h4)
      · exact .inl h4
  · rcases gone_inv hv with hv | ⟨⟨id', h1, h2, h3⟩, _⟩
    · exact hm1.sep id B hid e a v hv hab
    · exfalso
      rw [hl] at hid
      have := hm.inj id' id B h2 (by omega) (by rw [h3, hab]) e
      omega

theorem mapO_inv {f : AV → Option AV} : ∀ {l l' : List AV}, mapO f l = some l' → l'.length = l.length ∧ ∀ k, k < l.length → f (l.getD k .undef) = some (l'.getD k .undef)
  | [], l', h => by simp [mapO] at h; subst h; simp
  | x :: l, l', h => by
    simp only [mapO] at h
    obtain ⟨y, h1, h⟩ := obind_inv h
    obtain ⟨r, h2, h⟩ := obind_inv h
    cases h
    obtain ⟨h3, h4⟩ := mapO_inv h2
    refine ⟨by simp [h3], fun k hk => ?_⟩
    cases k with
    | zero => simpa using h1
    | succ k => simpa using h4 k (by simpa using hk)

theorem freeze_rep (hm : Mem F C h w) : ∀ (k : Nat) (v v' : AV) (u : Value), freeze h m k v = some v' → ARep C h.length v u → ARep (C.withM (gone C h m w)) h.length v' u := by
  intro k
  induction k with
  | zero => intro v v' u hf; cases v <;> simp [freeze] at hf
  | succ k ih =>
    intro v v' u hf hr
    have same : ARep (C.withM (gone C h m w)) h.length v u := hr.mono (gone_ext _) (Nat.le_refl _)
    have many : ∀ {cs l : List AV} {vs : Array Value}, mapO (freeze h m k) cs = some l → vs.size = cs.length → (∀ j, j < cs.length → ARep C h.length (cs.getD j .undef) (vs.getD j Go.undef)) →
        vs.size = l.length ∧ ∀ j, j < l.length → ARep (C.withM (gone C h m w)) h.length (l.getD j .undef) (vs.getD j Go.undef) := by
      intro cs l vs h1 h2 h3
      obtain ⟨h4, h5⟩ := mapO_inv h1
      exact ⟨by rw [h4]; exact h2, fun j hj => ih _ _ _ (h5 j (by omega)) (h3 j (by omega))⟩
    cases v with
    | p x => simp only [freeze] at hf; cases hf; exact same
    | arr id g off len =>
      simp only [freeze] at hf
      split at hf
      · cases hf; exact same
      · rename_i hid
        simp only [Option.map_eq_some_iff] at hf
        obtain ⟨l, hp, rfl⟩ := hf
        have h1 := snap1_rep (rd := h) (ids := [id]) hm (fun _ _ => rfl) hr (fun id' g' off' len' e => by cases e; simp)
        have e : snap1 h (.arr id g off len) = .p (.sl l) := by simp only [snap1, hp]
        rw [e] at h1
        refine .p _ _ ((p_inv h1).mono (fun a v ha => ?_))
        rcases shown_inv ha with ha | ⟨⟨id', g', B, o, cap, sz, sh, es, h2, h3, h4, h5, h6, h7⟩, h8⟩
        · exact gone_old ha
        · have : id' = id := by simpa using h2
          subst this
          exact gone_cell hm ⟨id', by omega, h3, by rw [h4, h6]; rfl⟩ h8
    | ref id off =>
      simp only [freeze] at hf
      split at hf
      · cases hf; exact same
      · rename_i hid
        split at hf
        · rename_i cs ho
          obtain ⟨l, h1, hf⟩ := obind_inv hf
          simp only [Option.map_eq_some_iff] at hf
          obtain ⟨ps, h2, rfl⟩ := hf
          cases hr with
          | ref _ _ B h3 h4 =>
            have h5 := hm.objs id h3
            rw [ho, h4] at h5
            obtain ⟨c, et, h6, h7, h8, h9⟩ := h5
            obtain ⟨h10, h11⟩ := many h1 h7 h9
            obtain ⟨h12, h13⟩ := toPs_inv h2
            obtain ⟨h14, _⟩ := mapO_inv h1
            have := PRep.ptr (M := gone C h m w) ps off B 0 (fun k => c.getD k Go.undef) (fun k hk => ?_) (fun k hk => ?_)
            · rw [Nat.zero_add] at this; exact .p _ _ this
            · have hk' : k < cs.length := by omega
              refine ⟨gone_cell hm ⟨id, by omega, h3, by rw [h4]; rfl⟩ ?_, ?_⟩
              · rw [Nat.zero_add, cell_of_block h6]; exact getD_some (by omega)
              · exact (one_rep (h9 k hk') (all_getD h8 hk')).1
            · have h15 := h11 k (by omega)
              rw [h13 k (by omega)] at h15
              exact p_inv h15
        · cases hf
    | fn f cs =>
      simp only [freeze] at hf
      obtain ⟨l, h1, hf⟩ := obind_inv hf
      cases hr with
      | fn _ _ vs h3 h4 =>
        obtain ⟨h10, h11⟩ := many h1 h3 h4
        split at hf
        · rename_i ps h2
          cases hf
          obtain ⟨h12, h13⟩ := toPs_inv h2
          refine .p _ _ (.fn f ps vs (by omega) (fun k hk => ?_))
          have h15 := h11 k (by omega)
          rw [h13 k (by omega)] at h15
          exact p_inv h15
        · cases hf
          exact .fn _ _ _ h10 h11
    | agg cs =>
      simp only [freeze] at hf
      obtain ⟨l, h1, hf⟩ := obind_inv hf
      cases hf
      cases hr with
      | agg _ vs h3 h4 =>
        obtain ⟨h10, h11⟩ := many h1 h3 h4
        exact .agg _ _ h10 h11
    | map id =>
      simp only [freeze] at hf
      split at hf
      · cases hf; exact same
      · cases hf
    | _ => simp [freeze] at hf

/-- What a function's results are, as the machine reads them. -/
def results1 (tmps : Array Value) : ResultVar → Sem Value
  | .tmp t => pure (tmps.getD t Go.undef)
  | .cell a t => do loadVar t (← asAddr (tmps.getD a Go.undef))

theorem outs_rep (hT : T.Ok P) (hm : Mem F C h w) {tm : Tm} {a : Act} (ht : ∀ i, ARep C h.length (look tm i) (a.tmps.getD i Go.undef)) : ∀ (l : List ResultVar) (vs : List AV), outs T h tm l = some vs →
    ∃ us : List Value, (l.mapM (results1 a.tmps)).run P w = .ok us w ∧ us.length = vs.length ∧ ∀ k, k < vs.length → ARep C h.length (vs.getD k .undef) (us.getD k Go.undef)
  | [], vs, h1 => by
    simp [outs] at h1
    subst h1
    exact ⟨[], by simp, rfl, by simp⟩
  | .tmp t :: r, vs, h1 => by
    simp only [outs] at h1
    obtain ⟨l, h2, h1⟩ := obind_inv h1
    cases h1
    obtain ⟨us, h3, h4, h5⟩ := outs_rep hT hm ht r l h2
    refine ⟨a.tmps.getD t Go.undef :: us, ?_, by simp [h4], fun k hk => ?_⟩
    · simp only [List.mapM_cons, results1, Sem.run_bind, Sem.run_pure, Result.andThen_ok, h3]
    · cases k with
      | zero => simpa using ht t
      | succ k => simpa using h5 k (by simpa using hk)
  | .cell b t :: r, vs, h1 => by
    simp only [outs] at h1
    split at h1
    · rename_i hok
      obtain ⟨l, h2, h1⟩ := obind_inv h1
      cases h1
      obtain ⟨us, h3, h4, h5⟩ := outs_rep hT hm ht r l h2
      obtain ⟨u, h6, h7⟩ := loadV_sound hT hm (fun _ _ => rfl) hok (ht b)
      have h8 : (results1 a.tmps (.cell b t)).run P w = .ok u w := by
        have hp : ∃ ad, a.tmps.getD b Go.undef = .pointer (some ad) := by
          unfold loadV at hok
          split at hok
          · rename_i i cs off _ hc
            obtain ⟨B, o, h9, _⟩ := cellsAt_rep hm (fun _ _ => rfl) hc (ht b)
            exact ⟨_, h9⟩
          · cases hok
        obtain ⟨ad, hp⟩ := hp
        simp only [results1]
        rw [hp] at h6 ⊢
        simpa [Instr.loadAt, Instr.sureAddr, asAddr] using h6
      refine ⟨u :: us, ?_, by simp [h4], fun k hk => ?_⟩
      · simp only [List.mapM_cons, Sem.run_bind, Sem.run_pure, Result.andThen_ok, h8, h3]
      · cases k with
        | zero => simpa using h7
        | succ k => simpa using h5 k (by simpa using hk)
    · cases h1

theorem run_results {fn : Func} {tmps : Array Value} {us : List Value} (h1 : (fn.results.toList.mapM (results1 tmps)).run P w = .ok us w) :
    (results fn tmps).run P w = .ok (if h : us.length = 1 then us[0] else .tuple us.toArray) w := by
  have e : results fn tmps = (do let vs ← fn.results.mapM (results1 tmps); pure (if h : vs.size = 1 then vs[0] else .tuple vs)) := rfl
  rw [e, Array.mapM_eq_mapM_toList]
  simp only [map_eq_pure_bind, bind_assoc, pure_bind, Sem.run_bind, h1, Result.andThen_ok, Sem.run_pure]
  simp

theorem one1_rep {C : Cx} {n : Nat} {vs : List AV} {us : List Value} (hl : us.length = vs.length) (hr : ∀ k, k < vs.length → ARep C n (vs.getD k .undef) (us.getD k Go.undef)) :
    ARep C n (one1 vs) (if h : us.length = 1 then us[0] else .tuple us.toArray) := by
  unfold one1
  split
  · rename_i v
    have : us.length = 1 := by simpa using hl
    rw [dif_pos this]
    have h1 := hr 0 (by simp)
    match us, this with
    | [u], _ => simpa using h1
  · rename_i hne
    have : ¬ us.length = 1 := by
      intro e
      rw [hl] at e
      match vs, e with
      | [v], _ => exact hne v rfl
    rw [dif_neg this]
    refine .tup _ _ (by simpa using hl) (fun k hk => ?_)
    have := hr k hk
    simpa [List.getD_eq_getElem?_getD, Array.getD_eq_getD_getElem?] using this

/-- The marks of a frame are taken, one by one: memory is as it was, but for them. -/
theorem leaves_marks {fn : Func} {tmps : Array Value} {R : Ending → World → Prop} {K0 : Nat → Option Go.Obj} : ∀ (ds : List Deferred) (C : Cx) (w : World), Marks F.w0 C ds → Mem F C h w → (∀ B o, K0 B = some o → C.K B = some o ∧ B < F.w0.heap.size) →
    (∀ (C' : Cx) (w' : World), C'.M = C.M → C'.μ = C.μ → C'.L = C.L → C'.K = K0 → Mem F C' h w' → ∃ v, (results fn tmps).run P w' = .ok v w' ∧ R (.returned v) w') → LeavesInM (FW none) 0 P fn tmps R ds .returning w
  | [], C, w, _, hm, hk, hq => by
    have h1 := hm.reK (K := K0) (fun B o e => (hk B o e).1)
    exact hq (C.reK K0) w rfl rfl rfl rfl h1
  | d :: ds, C, w, hd, hm, hk, hq => by
    obtain ⟨⟨D, rfl, h1, h2, h3⟩, h4⟩ := hd
    have hD := hm.kept D _ h1
    have hlt := (Array.getElem?_eq_some_iff.1 hD).1
    refine ⟨by simp, .inl ⟨D, { w with heap := w.heap.setIfInBounds D (.deferred none) }, rfl, ?_, ?_⟩⟩
    · have e1 : (getObj D).run P w = .ok (.deferred (some [])) w := by simp [getObj, Sem.run, hD]
      have e2 : (setObj D (.deferred none)).run P w = .ok () { w with heap := w.heap.setIfInBounds D (.deferred none) } := by simp [setObj, Sem.run, hD]
      simp [Instr.takeDeferred, e1, e2]
    · have hsame : ∀ k, k ≠ D → (w.heap.setIfInBounds D (.deferred none))[k]? = w.heap[k]? := fun k hk => by simp [Ne.symm hk]
      have hnoc : ∀ a v, C.M a = some v → a.block ≠ D := fun a v hv e => by
        have hc := hm.prot a v hv
        unfold World.cell? at hc
        rw [e, hD] at hc
        cases hc
      let K1 : Nat → Option Go.Obj := fun B => if B = D then none else C.K B
      have hK1 : ∀ B o, K1 B = some o → C.K B = some o ∧ B ≠ D := fun B o e => by
        have e : (if B = D then none else C.K B) = some o := e
        split at e
        · cases e
        · exact ⟨e, by assumption⟩
      have hm' := hm.reK (K := K1) (fun B o e => (hK1 B o e).1)
      have hm2 : Mem F (C.reK K1) h { w with heap := w.heap.setIfInBounds D (.deferred none) } := by
        refine ⟨fun id hid => (hm'.objs id hid).mono (Ext.refl _ _) (Nat.le_refl _) (fun B e => hsame B (fun e' => hm.ksep D _ h1 id hid (by rw [← e']; exact e))), fun a v e => (World.cell?_of_block (hsame _ (hnoc a v e))).trans (hm.prot a v e), hm.src, hm.sep, hm.inj,
          fun id B hid e => ?_, fun B o e => ?_, hm'.ksep, hm.bnd, ⟨hm.fr.os, hm.fr.tape, hm.fr.output, by simpa using hm.fr.size, fun k hk hs => (hsame k (by omega)).trans (hm.fr.block k hk hs)⟩⟩
        · obtain ⟨g1, g2⟩ := hm.lt id B hid e
          exact ⟨by simpa using g1, g2⟩
        · obtain ⟨g1, g2⟩ := hK1 B o e
          exact (hsame B g2).trans (hm.kept B o g1)
      refine leaves_marks ds (C.reK K1) _ ?_ hm2 (fun B o e => ?_) (fun C' w' a1 a2 a3 a4 m => hq C' w' a1 a2 a3 a4 m)
      · have : ∀ (ds : List Deferred), (∀ d' ∈ ds, d' ≠ { target := .collected D, args := #[] }) → Marks F.w0 C ds → Marks F.w0 (C.reK K1) ds := by
          intro ds
          induction ds with
          | nil => intro _ _; trivial
          | cons d ds ih =>
            rintro hn ⟨⟨D', b1, b2, b3, b4⟩, b5⟩
            refine ⟨⟨D', b1, ?_, b3, b4⟩, ih (fun d' hd' => hn d' (by simp [hd'])) b5⟩
            show (if D' = D then none else C.K D') = _
            rw [if_neg (fun e => hn d (by simp) (by rw [b1, e])), b2]
        exact this ds h3 h4
      · obtain ⟨g1, g2⟩ := hk B o e
        refine ⟨?_, g2⟩
        show (if B = D then none else C.K B) = _
        rw [if_neg (by omega), g1]

theorem scalarP_rep {M M' : Addr → Option Value} {x : PV} {v : Value} (hs : scalarP x = true) (hr : PRep M x v) : PRep M' x v := by
  unfold scalarP at hs
  split at hs
  · cases hr; exact .int _ _
  · cases hr; exact .bool _
  · cases hr; exact .str _
  · cases hr; exact .nils
  · cases hs

theorem numbered_look : ∀ (l : List AV) (i k : Nat), look (numbered l i) k = if i ≤ k then l.getD (k - i) .undef else .undef
  | [], i, k => by simp [numbered, look]
  | v :: l, i, k => by
    simp only [numbered, look, numbered_look l (i + 1) k]
    by_cases h1 : i = k
    · subst h1; simp
    · rw [if_neg h1]
      by_cases h2 : i ≤ k
      · rw [if_pos (by omega), if_pos h2, show k - i = (k - (i + 1)) + 1 from by omega]
        simp
      · rw [if_neg (by omega), if_neg h2]

end
end Go.En
set_option linter.unusedSimpArgs false
set_option linter.unusedVariables false
namespace Go.En
open Go.RowKit

section
variable {P : Program} {T : Tab} {F : Base} {w : World} {C : Cx} {h : Hp} {n m : Nat} {L : LoopTab}

/-- A fresh result is made of new memory alone. -/
theorem fresh_rep (hm : Mem F C h w) (hS : F.S = fun _ => False) {v v' : AV} {u : Value} (hf : freshV h m v = true) (hz : freeze h m 5 v = some v') (hr : ARep C h.length v u) (hr' : ARep (C.withM (gone C h m w)) h.length v' u) {C' : Cx} {n' : Nat} (hM : C'.M = newM F.w0 (gone C h m w)) :
    ARep C' n' v' u := by
  unfold freshV at hf
  rw [Bool.or_eq_true] at hf
  rcases hf with hf | hf
  · have : v' = v := by
      unfold scalar1 at hf
      split at hf <;> first | (simp only [freeze] at hz; cases hz; rfl) | cases hf
    subst this
    exact scalar1_rep hf hr
  · split at hf
    · rename_i id g off len
      rw [Bool.and_eq_true] at hf
      obtain ⟨hid, hes⟩ := hf
      have hid := of_decide_eq_true hid
      split at hes
      · rename_i g' sz sh es ho
        simp only [freeze] at hz
        rw [if_neg (by omega)] at hz
        simp only [Option.map_eq_some_iff] at hz
        obtain ⟨l, hp, rfl⟩ := hz
        have hp' := hp
        unfold pic at hp'
        simp only [ho] at hp'
        split at hp'
        · rename_i hc
          obtain ⟨hg, hle⟩ := hc
          cases hp'
          refine .p _ _ ?_
          rw [hM]
          have hpr := p_inv hr'
          rcases arr_live hm ho hg hr with ⟨B, o, cap, a, hidl, hμ, hcap, ha, rfl, _, hesl, c, et0, hB, hfit, hrow⟩ | ⟨hidl, hμ, hnil, rfl, rfl, rfl⟩
          · have hnew : F.w0.heap.size ≤ B := by
              rcases (hm.lt id B hidl (by rw [hμ]; rfl)).2 with h1 | h1
              · rw [hS] at h1; exact h1.elim
              · exact h1
            generalize hee : List.take len (List.drop off es) = ee at hpr ⊢
            generalize hlen : (some { block := B, off := a, spot := none } : Option Addr) = ad at hpr
            generalize hll : len = ln at hpr
            generalize hcc : cap - off = cp at hpr
            cases hpr with
            | sl0 => exact .sl0
            | slE a' cap' => exact .slE _ _
            | sl _ B' o' cap' sz' f h1 h2 h3 h4 =>
              cases hlen
              refine .sl _ _ _ _ sz' f h1 h2 (fun k hk => ⟨?_, (h3 k hk).2⟩) (fun k hk => ?_)
              · show newM F.w0 (gone C h m w) _ = _
                unfold newM
                rw [if_pos hnew]; exact (h3 k hk).1
              · refine scalarP_rep ?_ (h4 k hk)
                have : ∀ y ∈ flat ee, scalarP y = true := fun y hy => by
                  simp only [flat, List.mem_flatMap] at hy
                  obtain ⟨z, hz1, hz2⟩ := hy
                  rw [← hee] at hz1
                  simp only [List.all_eq_true] at hes
                  exact hes z (List.mem_of_mem_drop (List.mem_of_mem_take hz1)) y hz2
                rw [List.getD_eq_getElem?_getD, List.getElem?_eq_getElem hk]
                exact this _ (List.getElem_mem _)
          · subst hnil
            exact .sl0
        · cases hp'
      · cases hes
    · cases hf

theorem one1_all {C : Cx} {n : Nat} {vs : List AV} {us : List Value} (hl : us.length = vs.length) (hr : ∀ k, k < vs.length → ARep C n (vs.getD k .undef) (us.getD k Go.undef)) :
    ARep C n (one1 vs) (if h : us.length = 1 then us[0] else .tuple us.toArray) := one1_rep hl hr

end
end Go.En
set_option linter.unusedSimpArgs false
set_option linter.unusedVariables false
namespace Go.En
open Go.RowKit

section
variable {P : Program} {T : Tab} {L : LoopTab}

theorem retV_full {x : X} {A : At} (hT : x.T.Ok P) {fn : Func} {s : St} {r : AV × Hp} (he : retV x A.n0 fn s = some r) {a : Act} {w : World} {C : Cx} (htm : ∀ i, ARep C s.hp.length (look s.tm i) (a.tmps.getD i Go.undef)) (hm : Mem A.F C s.hp w)
    (hext : Ext A.n0 A.C0 C) :
    A.n0 ≤ r.2.length ∧ ∃ u, (results fn a.tmps).run P w = .ok u w ∧ ∃ C', Ext A.n0 A.C0 C' ∧ C'.K = C.K ∧ Mem A.F C' r.2 w ∧ ARep C' r.2.length r.1 u ∧
      (x.T.fresh x.f = true → A.F.S = (fun _ => False) → ARep (C'.withM (newM A.F.w0 C'.M)) r.2.length r.1 u) := by
  unfold retV at he
  obtain ⟨vs, h1, he⟩ := obind_inv he
  obtain ⟨_, hfr, he⟩ := obind_inv he
  have hfr := chk_inv hfr
  split at he
  · split at he
    · rename_i hg hc
      cases he
      obtain ⟨us, h5, h6, h7⟩ := outs_rep hT hm htm _ _ h1
      refine ⟨hc.1, _, run_results h5, C, hext, rfl, hm, one1_rep (by omega) (fun k hk => h7 k hk), fun hfresh _ => ?_⟩
      rw [hc.2] at hfresh; cases hfresh
    · cases he
  obtain ⟨vs', h2, he⟩ := obind_inv he
  split at he
  · rename_i hc
    obtain ⟨h3, h4⟩ := hc
    cases he
    have hl : ((s.hp.take A.n0).map (lowO A.n0)).length = A.n0 := by simp; omega
    obtain ⟨us, h5, h6, h7⟩ := outs_rep hT hm htm _ _ h1
    obtain ⟨h8, h9⟩ := mapO_inv h2
    refine ⟨Nat.le_of_eq hl.symm, _, run_results h5, C.withM (gone C s.hp A.n0 w), hext.trans (gone_ext _), rfl, hm.gone h4, ?_, fun hfresh hS => ?_⟩
    · rw [hl]
      exact one1_rep (by omega) (fun k hk => lower2 (freeze_rep hm 5 _ _ _ (h9 k (by omega)) (h7 k (by omega))) (all_getD h3 hk))
    · rw [hl]
      have hall : vs.all (freshV s.hp A.n0) = true := by rw [hfresh] at hfr; simpa using hfr
      exact one1_rep (by omega) (fun k hk => fresh_rep hm hS (all_getD hall (by omega)) (h9 k (by omega)) (h7 k (by omega)) (freeze_rep hm 5 _ _ _ (h9 k (by omega)) (h7 k (by omega))) rfl)
  · cases he

/-- A function: what the evaluation says of it is so. -/
theorem enter_sound {call : CallF} {yield : YieldF} {fuel f : Nat} {fn : Func} (hT : T.Ok P) (hcalls : ∀ f as h r, call f as h = some r → CallOk L T.fresh P f as h r) (hyields : ∀ id as h r, yield id as h = some r → YieldOk L P id as h r)
    (hmix : P.follows .mixedOrders = true) (hcode : L.code = T.loops) (hnum : L.nt f = some fn.ntmps) (hf : P.funcs[f]? = some fn)
    (hname : (fn.name == "runtime.NumGoroutine") = false) (hbody : ∀ c, fn.body = some c → bodyOk T f c = true ∧ loopsOk T f c 0) {as : List AV} {h : Hp} {r : AV × Hp} (he : enter T call yield fuel f fn as h = some r) : CallOk L T.fresh P f as h r := by
  unfold enter at he
  split at he
  · cases he
  · rename_i c hc
    split at he
    · rename_i hlen
      obtain ⟨hb, hlo⟩ := hbody c hc
      cases h1 : evc ⟨T, call, yield, f, fn.ntmps, fuel, false⟩ c 0 ⟨numbered as 0, h⟩ with
      | none => rw [h1] at he; cases he
      | some q =>
        obtain ⟨e, s⟩ := q
        rw [h1] at he
        have hret : retV ⟨T, call, yield, f, fn.ntmps, fuel, false⟩ h.length fn s = some r ∧ (e = .nor ∨ e = .ret) := by
          cases e with
          | nor => exact ⟨he, .inl rfl⟩
          | ret => exact ⟨he, .inr rfl⟩
          | exit _ => cases he
        obtain ⟨hret, hend⟩ := hret
        refine ⟨⟨fn, hf, by rw [hc]; rfl, hname⟩, ?_, fun w C vs hL hm hs hr => ?_⟩
        · unfold retV at hret
          obtain ⟨_, _, hret⟩ := obind_inv hret
          obtain ⟨_, _, hret⟩ := obind_inv hret
          split at hret
          · split at hret
            · rename_i h2
              cases hret
              exact h2.1
            · cases hret
          obtain ⟨_, _, hret⟩ := obind_inv hret
          split at hret
          · rename_i h2
            cases hret
            simp; omega
          · cases hret
        · let A : At := ⟨⟨w, ownB C h, C.M⟩, C, h.length, fn.ntmps, none⟩
          refine callsIn_FW.1 (callsIn_of_wp_marks (F := FW none) (n := 0) hf hc trivial ?_ rfl)
          have hstart : Stands A ⟨numbered as 0, h⟩ { tmps := vs ++ Array.replicate (fn.ntmps - vs.size) Go.undef, defers := [] } w := by
            refine ⟨C, ?_, trivial, fun i => ?_, hm, Ext.refl _ _, Nat.le_refl _⟩
            · show (vs ++ Array.replicate (fn.ntmps - vs.size) Go.undef).size = fn.ntmps
              simp; omega
            · rw [numbered_look]
              simp only [Nat.zero_le, if_true, Nat.sub_zero]
              rcases Nat.lt_or_ge i as.length with hi | hi
              · have := hr i hi
                have e : (vs ++ Array.replicate (fn.ntmps - vs.size) Go.undef).getD i Go.undef = vs.getD i Go.undef := by
                  simp only [Array.getD_eq_getD_getElem?]
                  rw [Array.getElem?_append_left (by omega)]
                rw [e]; exact this
              · rw [List.getD_eq_getElem?_getD, List.getElem?_eq_none hi]
                exact .undef _
          have hH : Here L P ⟨T, call, yield, f, fn.ntmps, fuel, false⟩ A := { T := hT, calls := hcalls, yields := hyields, L0 := hL, mix := hmix, nt := rfl, rn := (fun _ => rfl), code := hcode, num := hnum }
          refine evc_sound c 0 _ e s A _ _ w hH hb hlo h1 hstart (fun a w' h2 => ?_)
          obtain ⟨C1, r1⟩ := h2
          have hlv : LeavesInM (FW none) 0 P fn a.tmps (fun
              | .returned u, w' => ∃ C', Ext h.length C C' ∧ C'.K = C.K ∧ Mem ⟨w, ownB C h, C.M⟩ C' r.2 w' ∧ ARep C' r.2.length r.1 u ∧ (T.fresh f = true → ownB C h = (fun _ => False) → ARep (C'.withM (newM w C'.M)) r.2.length r.1 u)
              | _, _ => False) a.defers .returning w' := by
            refine leaves_marks (F := A.F) (h := s.hp) (K0 := C.K) a.defers C1 w' r1.defers r1.mem (fun B o e => ⟨r1.ext.K B o e, (Array.getElem?_eq_some_iff.1 (hm.kept B o e)).1⟩) (fun C2 w2 a1 a2 a3 a4 m2 => ?_)
            have eC : C2 = C1.reK C.K := by
              cases C2; cases C1
              simp only at a1 a2 a3 a4
              subst a1; subst a2; subst a3; subst a4
              rfl
            subst eC
            obtain ⟨g0, u, g1, C3, g2, g3, g4, g5, g6⟩ := retV_full (A := A) (x := ⟨T, call, yield, f, fn.ntmps, fuel, false⟩) hT hret (a := a) (w := w2) (C := C1.reK C.K) (fun i => (r1.tm i).reK) m2 ⟨r1.ext.M, fun _ _ e => e, r1.ext.L, r1.ext.μ⟩
            exact ⟨u, g1, C3, g2, g3, g4, g5, g6⟩
          rcases hend with rfl | rfl
          · exact hlv
          · exact hlv
    · cases he

/-- What the evaluation says of calls and of loops' yields is so. -/
theorem sys_sound {fs : Nat → Option Func} {over : CallF} (hT : T.Ok P) (hmix : P.follows .mixedOrders = true) (hL : L = ⟨T.loops, fun f => (fs f).map (·.ntmps)⟩)
    (hfs : ∀ f fn, fs f = some fn → P.funcs[f]? = some fn ∧ (fn.name == "runtime.NumGoroutine") = false ∧ ∀ c, fn.body = some c → bodyOk T f c = true ∧ loopsOk T f c 0)
    (hloops : ∀ f lid l, T.loops f lid = some l → bodyOk T f l.2.1 = true ∧ bodyOk T f l.2.2 = true ∧ loopsOk T f l.2.1 0 ∧ loopsOk T f l.2.2 0)
    (hover : ∀ f as h r, over f as h = some r → CallOk L T.fresh P f as h r) : ∀ n, (∀ f as h r, (sys T fs over n).1 f as h = some r → CallOk L T.fresh P f as h r) ∧ (∀ id as h r, (sys T fs over n).2 id as h = some r → YieldOk L P id as h r) := by
  have hcode : L.code = T.loops := by rw [hL]
  have hnum : ∀ f fn, fs f = some fn → L.nt f = some fn.ntmps := fun f fn e => by rw [hL]; simp [e]
  intro n
  induction n with
  | zero => exact ⟨fun f as h r he => (by cases he), fun id as h r he => (by cases he)⟩
  | succ n ih =>
    refine ⟨fun f as h r he => ?_, fun id as h r he => yield_sound hT ih.1 ih.2 hmix hcode hnum hloops he⟩
    simp only [sys] at he
    cases ho : over f as h with
    | some r' =>
      rw [ho] at he
      cases he
      exact hover _ _ _ _ ho
    | none =>
      rw [ho] at he
      simp only [ocase_none] at he
      obtain ⟨fn, h1, he⟩ := obind_inv he
      obtain ⟨h2, h3, h4⟩ := hfs f fn h1
      exact enter_sound hT ih.1 ih.2 hmix hcode (hnum f fn h1) h2 h3 h4 he

end
end Go.En
set_option linter.unusedSimpArgs false
namespace Go.En
open Go.RowKit

/-- Shapes of plain data. -/
inductive Sh where
  | int (k : IntKind)
  | bool
  | str
  | sl (s : Sh)
  | st (fs : List Sh)

mutual
def Sh.size : Sh → Nat
  | .st fs => Sh.sizes fs
  | _ => 1
def Sh.sizes : List Sh → Nat
  | [] => 0
  | s :: r => s.size + Sh.sizes r
end

mutual
/-- A pure value is of a shape. -/
def Is : Sh → PV → Prop
  | .int k, x => ∃ n, x = .int k n ∧ (Lit.int k n).wf = true
  | .bool, x => ∃ b, x = .bool b
  | .str, x => ∃ s : ByteArray, x = .str s ∧ s.size ≤ maxLen
  | .sl s, x => ∃ es : List PV, x = .sl es ∧ es.length ≤ maxLen ∧ ∀ y ∈ es, Is s y
  | .st fs, x => ∃ cs, x = .agg cs ∧ IsAll fs cs
def IsAll : List Sh → List PV → Prop
  | [], cs => cs = []
  | s :: r, cs => ∃ y rest, Is s y ∧ cs = y.cells ++ rest ∧ IsAll r rest
end

mutual
/-- A type of the program is of a shape. -/
def shB (P : Program) : Sh → TypeId → Bool
  | .int k, t => (match P.underlying t with | some (.int k') => decide (k' = k) | _ => false)
  | .bool, t => (match P.underlying t with | some .bool => true | _ => false)
  | .str, t => (match P.underlying t with | some .string => true | _ => false)
  | .sl s, t => (match P.underlying t with | some (.slice e) => shB P s e && decide (P.cellsOf e = s.size ∧ 0 < s.size) | _ => false)
  | .st fs, t => (match P.underlying t with | some (.struct fields) => shFs P fs fields.toList 0 && decide (P.cellsOf t = Sh.sizes fs) | _ => false)
def shFs (P : Program) : List Sh → List Field → Nat → Bool
  | [], [], _ => true
  | s :: r, f :: fs, off => decide (f.offset = off ∧ P.cellsOf f.type = s.size) && shB P s f.type && shFs P r fs (off + s.size)
  | _, _, _ => false
end

/-- Cells of the machine stand for a pure value. -/
def Stand (M : Addr → Option Value) (x : PV) (cs : List Value) : Prop :=
  x.cells.length = cs.length ∧ ∀ k, k < cs.length → PRep M (x.cells.getD k .nils) (cs.getD k Go.undef) ∧ (cs.getD k Go.undef).oneCell' = true

theorem Stand.one {M : Addr → Option Value} {x : PV} {v : Value} (h : PRep M x v) (h1 : x.cells = [x]) (h2 : v.oneCell' = true) : Stand M x [v] := by
  refine ⟨by rw [h1]; rfl, fun k hk => ?_⟩
  have : k = 0 := by simpa using hk
  subst this
  rw [h1]
  exact ⟨by simpa using h, h2⟩

theorem mapM_inv {α β : Type} {f : α → Option β} : ∀ {l : List α} {r : List β}, l.mapM f = some r → r.length = l.length ∧ ∀ (k : Nat) (a : α), l[k]? = some a → ∃ b, r[k]? = some b ∧ f a = some b
  | [], r, h => by simp at h; subst h; simp
  | a :: l, r, h => by
    simp only [List.mapM_cons, Option.bind_eq_bind, Option.bind_eq_some_iff, Option.pure_def, Option.some.injEq] at h
    obtain ⟨b, h1, bs, h2, rfl⟩ := h
    obtain ⟨h3, h4⟩ := mapM_inv h2
    refine ⟨by simp [h3], fun k c hk => ?_⟩
    cases k with
    | zero => simp at hk; subst hk; exact ⟨b, rfl, h1⟩
    | succ k => simpa using h4 k c (by simpa using hk)

theorem cells_inv {w : World} {base n : Nat} {a : Addr} {l : List Value} (h : w.cells? base a n = some l) : l.length = n ∧ ∀ k, k < n → w.cell? (a.add k) = some (l.getD k Go.undef) := by
  unfold World.cells? at h
  split at h
  · obtain ⟨h1, h2⟩ := mapM_inv h
    simp only [List.length_range] at h1
    refine ⟨h1, fun k hk => ?_⟩
    obtain ⟨b, h3, h4⟩ := h2 k k (by simp [hk])
    rw [h4, List.getD_eq_getElem?_getD, h3]; rfl
  · cases h

theorem choose_list {α : Type} {Q : Nat → α → Prop} : ∀ (n : Nat), (∀ i, i < n → ∃ a, Q i a) → ∃ l : List α, l.length = n ∧ ∀ (i : Nat) (a : α), l[i]? = some a → Q i a
  | 0, _ => ⟨[], rfl, fun i a h => by simp at h⟩
  | n + 1, h => by
    obtain ⟨l, h1, h2⟩ := choose_list n (fun i hi => h i (by omega))
    obtain ⟨a, ha⟩ := h n (by omega)
    refine ⟨l ++ [a], by simp [h1], fun i b hb => ?_⟩
    rcases Nat.lt_or_ge i l.length with hi | hi
    · rw [List.getElem?_append_left hi] at hb; exact h2 i b hb
    · have hlt := (List.getElem?_eq_some_iff.1 hb).1
      have : i = l.length := by simp at hlt; omega
      subst this
      simp at hb
      subst hb; rw [h1]; exact ha

section
variable {H : Type} {enc : TypeId × Value → H} {P : Program} {w : World} {spare : Nat → Bool} {held : Bool}

/-- What a reading tells of an argument: a pure value of the type's shape. -/
theorem trod_stand : ∀ (fuel : Nat) (s : Sh) (t : TypeId) (cs : List Value) (d : DataW H) (ps : List MemPlace), shB P s t = true → DataW.trod enc P w 0 spare held fuel t cs = some (d, ps) → ∃ x, Is s x ∧ Stand w.cell? x cs := by
  intro fuel
  induction fuel with
  | zero => intro s t cs d ps _ h; cases h
  | succ fuel ih =>
    intro s t cs d ps hs h
    cases s with
    | int k =>
      simp only [shB] at hs
      split at hs
      · rename_i k' hu
        have := of_decide_eq_true hs; subst this
        simp only [DataW.trod, hu] at h
        split at h <;> try (cases h; done)
        all_goals first
          | (rename_i e; cases e; done)
          | skip
        · rename_i kk n e
          cases e
          split at h
          · rename_i hc
            obtain ⟨rfl, hw⟩ := hc
            exact ⟨.int _ n, ⟨n, rfl, hw⟩, Stand.one (.int _ _) rfl rfl⟩
          · cases h
      · cases hs
    | bool =>
      simp only [shB] at hs
      split at hs
      · rename_i hu
        simp only [DataW.trod, hu] at h
        split at h <;> try (cases h; done)
        all_goals first
          | (rename_i e; cases e; done)
          | skip
        · rename_i b e
          exact ⟨.bool b, ⟨b, rfl⟩, Stand.one (.bool _) rfl rfl⟩
      · cases hs
    | str =>
      simp only [shB] at hs
      split at hs
      · rename_i hu
        simp only [DataW.trod, hu] at h
        split at h <;> try (cases h; done)
        all_goals first
          | (rename_i e; cases e; done)
          | skip
        · rename_i b e
          split at h
          · rename_i hc
            exact ⟨.str b, ⟨b, rfl, hc⟩, Stand.one (.str _) rfl rfl⟩
          · cases h
      · cases hs
    | sl s =>
      simp only [shB] at hs
      split at hs
      · rename_i e hu
        simp only [Bool.and_eq_true, decide_eq_true_eq] at hs
        obtain ⟨hse, hcell, hpos⟩ := hs
        simp only [DataW.trod, hu] at h
        split at h <;> try (cases h; done)
        all_goals first
          | (rename_i e; cases e; done)
          | skip
        · exact ⟨.sl [], ⟨[], rfl, by simp, by simp⟩, Stand.one .sl0 rfl rfl⟩
        · rename_i e' a len cap e1
          cases e1
          split at h
          · rename_i hc
            simp only [Option.bind_eq_some_iff, Option.map_eq_some_iff] at h
            obtain ⟨elems, h1, _⟩ := h
            obtain ⟨h2, h3⟩ := mapM_inv h1
            simp only [List.length_range] at h2
            have h4 : ∀ i, i < len → ∃ y, Is s y ∧ y.cells.length = s.size ∧ ∀ k, k < s.size → ∃ v, w.cell? ((a.add (i * s.size)).add k) = some v ∧ PRep w.cell? (y.cells.getD k .nils) v ∧ v.oneCell' = true := by
              intro i hi
              obtain ⟨b, _, h5⟩ := h3 i i (by simp [hi])
              simp only [Option.bind_eq_some_iff] at h5
              obtain ⟨l, h6, h7⟩ := h5
              obtain ⟨h8, h9⟩ := cells_inv h6
              obtain ⟨y, h10, h11, h12⟩ := ih s _ l _ _ hse h7
              rw [hcell] at h8 h9
              refine ⟨y, h10, by omega, fun k hk => ⟨l.getD k Go.undef, h9 k hk, h12 k (by omega)⟩⟩
            obtain ⟨es, h5, h6⟩ := choose_list len h4
            refine ⟨.sl es, ⟨es, rfl, by omega, fun y hy => ?_⟩, Stand.one ?_ rfl rfl⟩
            · obtain ⟨i, hi, rfl⟩ := List.getElem_of_mem hy
              exact (h6 i _ (List.getElem?_eq_getElem hi)).1
            · rcases Nat.eq_zero_or_pos len with hz | hz
              · subst hz
                have : es = [] := List.eq_nil_of_length_eq_zero h5
                subst this
                exact .slE a cap
              · have hsp : a = ⟨a.block, a.off, none⟩ := by
                  obtain ⟨y, _, _, h7⟩ := h4 0 hz
                  obtain ⟨v, h8, _⟩ := h7 0 hpos
                  have e : (a.add (0 * s.size)).add 0 = a := by simp [Addr.add]
                  rw [e] at h8
                  have : a.spot = none := by
                    unfold World.cell? at h8
                    split at h8
                    · split at h8
                      · cases h8
                      · rename_i hs; simpa using hs
                    · cases h8
                  cases a; simp at this; subst this; rfl
                rw [hsp]
                have hu : ∀ x ∈ es, x.cells.length = s.size := fun x hx => by
                  obtain ⟨i, hi, rfl⟩ := List.getElem_of_mem hx
                  exact (h6 i _ (List.getElem?_eq_getElem hi)).2.1
                have key : ∀ k, k < (flat es).length → ∃ v, w.cell? ⟨a.block, a.off + k, none⟩ = some v ∧ PRep w.cell? ((flat es).getD k .nils) v ∧ v.oneCell' = true := by
                  refine flat_all (Q := fun x k => ∃ v, w.cell? ⟨a.block, a.off + k, none⟩ = some v ∧ PRep w.cell? x v ∧ v.oneCell' = true) hu (fun i hi j hj => ?_)
                  obtain ⟨_, _, h7⟩ := h6 i _ (List.getElem?_eq_getElem hi)
                  obtain ⟨v, h8, h9⟩ := h7 j hj
                  refine ⟨v, ?_, ?_⟩
                  · rw [hsp, add_at, add_at, Nat.add_assoc] at h8; exact h8
                  · have e : es.getD i .nils = es[i] := by simp [List.getD_eq_getElem?_getD, hi]
                    rw [e]; exact h9
                have := PRep.sl (M := w.cell?) es a.block a.off cap s.size (fun k => (w.cell? ⟨a.block, a.off + k, none⟩).getD Go.undef) (by omega) hu (fun k hk => by
                  obtain ⟨v, h7, h8, h9⟩ := key k hk
                  rw [h7]; exact ⟨rfl, h9⟩) (fun k hk => by
                  obtain ⟨v, h7, h8, h9⟩ := key k hk
                  rw [h7]; exact h8)
                rw [h5] at this
                exact this
          · cases h
      · cases hs
    | st fs =>
      simp only [shB] at hs
      split at hs
      · rename_i fields hu
        simp only [Bool.and_eq_true, decide_eq_true_eq] at hs
        obtain ⟨hfs, hcell⟩ := hs
        simp only [DataW.trod, hu] at h
        · split at h
          · rename_i hlen
            simp only [Option.map_eq_some_iff] at h
            obtain ⟨xs, h1, _⟩ := h
            have go : ∀ (fs : List Sh) (fl : List Field) (off : Nat) (xs : List (DataW H × List MemPlace)), shFs P fs fl off = true → off + Sh.sizes fs ≤ cs.length →
                (fl.mapM fun f => DataW.trod enc P w 0 spare held fuel f.type ((cs.drop f.offset).take (P.cellsOf f.type))) = some xs →
                ∃ ys, IsAll fs ys ∧ ys.length = Sh.sizes fs ∧ ∀ k, k < ys.length → PRep w.cell? (ys.getD k .nils) (cs.getD (off + k) Go.undef) ∧ (cs.getD (off + k) Go.undef).oneCell' = true := by
              intro fs
              induction fs with
              | nil =>
                intro fl off xs h2 _ _
                exact ⟨[], rfl, rfl, fun k hk => by simp at hk⟩
              | cons s r ihf =>
                intro fl off xs h2 h3 h4
                cases fl with
                | nil => simp [shFs] at h2
                | cons f fl =>
                  simp only [shFs, Bool.and_eq_true, decide_eq_true_eq] at h2
                  obtain ⟨⟨⟨h5, h6⟩, h7⟩, h8⟩ := h2
                  simp only [Sh.sizes] at h3
                  simp only [List.mapM_cons, Option.bind_eq_bind, Option.bind_eq_some_iff, Option.pure_def, Option.some.injEq] at h4
                  obtain ⟨b, h9, bs, h10, _⟩ := h4
                  obtain ⟨y, h11, h12, h13⟩ := ih s _ _ b.1 b.2 h7 h9
                  obtain ⟨ys, h14, h15, h16⟩ := ihf fl (off + s.size) bs h8 (by omega) h10
                  have hy : y.cells.length = s.size := by rw [h12, h5, h6]; simp; omega
                  refine ⟨y.cells ++ ys, ⟨y, ys, h11, rfl, h14⟩, by simp [Sh.sizes, hy, h15], fun k hk => ?_⟩
                  rw [append_getD]
                  split
                  · rename_i hk1
                    have h17 := h13 k (by rw [← h12]; exact hk1)
                    have e : (List.take (P.cellsOf f.type) (List.drop f.offset cs)).getD k Go.undef = cs.getD (off + k) Go.undef := by
                      rw [h5, h6]
                      simp only [List.getD_eq_getElem?_getD, List.getElem?_take, List.getElem?_drop]
                      rw [if_pos (by omega)]
                    rw [e] at h17; exact h17
                  · rename_i hk1
                    have h17 := h16 (k - y.cells.length) (by simp at hk; omega)
                    have e : off + s.size + (k - y.cells.length) = off + k := by omega
                    rw [e] at h17; exact h17
            obtain ⟨ys, h2, h3, h4⟩ := go fs fields.toList 0 xs hfs (by omega) h1
            refine ⟨.agg ys, ⟨ys, rfl, h2⟩, by show ys.length = _; omega, fun k hk => ?_⟩
            have := h4 k (by omega)
            rw [Nat.zero_add] at this
            exact this
          · cases h
      · cases hs

end
end Go.En
set_option linter.unusedSimpArgs false
namespace Go.En
open Go.RowKit Go.WideShapes

section
variable {H : Type} {enc : TypeId × Value → H} {P : Program} {w : World} {spare : Nat → Bool} {held : Bool}

theorem stand_one {M : Addr → Option Value} {x : PV} {v : Value} (h : Stand M x [v]) (h1 : x.cells = [x]) : PRep M x v := by
  have := (h.2 0 (by simp)).1
  rw [h1] at this
  simpa using this

theorem up_rep {C : Cx} {n : Nat} {x : PV} {v : Value} (h : PRep C.M x v) : ARep C n x.up v := by
  cases x with
  | agg cs =>
    cases h with
    | agg _ vs h1 h2 =>
      refine .agg _ _ (by simpa using h1) (fun k hk => ?_)
      have hk' : k < cs.length := by simpa using hk
      rw [mapp_getD hk']
      exact .p _ _ (h2 k hk')
  | _ => exact .p _ _ h

/-- An argument of a shape, as the evaluation has it. -/
theorem arg_pv {s : Sh} {t : TypeId} {v : Value} {d : DataW H} {ps : List MemPlace} {r : Reach} {base : Nat} (hs : shB P s t = true) (hv : Value.okWide P w r base t v) (h : DataW.Trod enc P w 0 spare held t v d ps) :
    ∃ x, Is s x ∧ PRep w.cell? x v := by
  obtain ⟨fuel, h⟩ := h
  obtain ⟨x, h1, h2⟩ := trod_stand fuel s t _ d ps hs h
  refine ⟨x, h1, ?_⟩
  cases s with
  | int k =>
    simp only [shB] at hs
    split at hs
    · rename_i k' hu
      obtain ⟨n, rfl⟩ := okWide_int hu hv
      obtain ⟨m, rfl, _⟩ := h1
      exact stand_one h2 rfl
    · cases hs
  | bool =>
    simp only [shB] at hs
    split at hs
    · rename_i hu
      obtain ⟨n, rfl⟩ := okWide_bool hu hv
      obtain ⟨m, rfl⟩ := h1
      exact stand_one h2 rfl
    · cases hs
  | str =>
    simp only [shB] at hs
    split at hs
    · rename_i hu
      obtain ⟨n, rfl⟩ := okWide_string hu hv
      obtain ⟨m, rfl, _⟩ := h1
      exact stand_one h2 rfl
    · cases hs
  | sl s =>
    simp only [shB] at hs
    split at hs
    · rename_i e hu
      obtain ⟨a, l, c, rfl⟩ := okWide_slice hu hv
      obtain ⟨m, rfl, _⟩ := h1
      exact stand_one h2 rfl
    · cases hs
  | st fs =>
    simp only [shB] at hs
    split at hs
    · rename_i e hu
      obtain ⟨cs, rfl, _⟩ := okWide_struct hu hv
      obtain ⟨m, rfl, _⟩ := h1
      have hl : cs.size = m.length := by have := h2.1; simp at this; exact this.symm
      refine .agg _ _ hl (fun k hk => ?_)
      have h3 := (h2.2 k (by rw [← h2.1]; exact hk)).1
      have e : (Value.agg cs).cells.toList.getD k Go.undef = cs.getD k Go.undef := by
        simp [Value.cells, List.getD_eq_getElem?_getD, Array.getD_eq_getD_getElem?]
      rw [e] at h3
      exact h3
    · cases hs

end

/-- A call's own context: nothing of its own; all that there is nobody writes. -/
def Cx.all (L : LoopTab) (w : World) : Cx := ⟨w.cell?, fun _ => .none, fun _ => none, L⟩

/-- A function that is shown plain data alone and tells one bool. -/
theorem law_calls {L : LoopTab} {fresh : Nat → Bool} {P : Program} {f : Nat} {xs : List PV} {vs : Array Value} {w : World} {b : Bool} (hok : CallOk L fresh P f (xs.map PV.up) [] (.p (.bool b), [])) (hs : vs.size = xs.length) (hr : ∀ k, k < xs.length → PRep w.cell? (xs.getD k .nils) (vs.getD k Go.undef)) :
    Calls P f vs w fun e w' => e = .returned (.bool b) ∧ Below w.heap.size w w' := by
  have hm : Mem ⟨w, ownB (Cx.all L w) [], w.cell?⟩ (Cx.all L w) [] w :=
    ⟨fun id hid => by simp at hid, fun _ _ e => e, fun _ _ e => .inr (.inr e), fun id B hid => by simp at hid, fun i j B hi => by simp at hi, fun id B hid => by simp at hid, (fun B o e => by cases e), (fun B o e => by cases e), fun id r b hid => by simp at hid, ⟨rfl, rfl, rfl, Nat.le_refl _, fun _ _ _ => rfl⟩⟩
  refine (hok.calls w (Cx.all L w) vs rfl hm (by simpa using hs) (fun k hk => ?_)).mono fun e w' he => ?_
  · have hk' : k < xs.length := by simpa using hk
    have e : (xs.map PV.up).getD k .undef = (xs.getD k .nils).up := by simp [List.getD_eq_getElem?_getD, hk']
    rw [e]
    exact up_rep (hr k hk')
  · cases e with
    | returned u =>
      obtain ⟨C', _, _, h1, h2, _⟩ := he
      exact ⟨by rw [bool_inv h2], h1.fr.os, h1.fr.tape, h1.fr.output, h1.fr.size, fun k hk => h1.fr.block k hk not_own⟩
    | panicked _ => exact he.elim
    | outgrown => exact he.elim

end Go.En
set_option linter.unusedSimpArgs false
namespace Go.En

/-- The pure value of a cell of a zero value. -/
def pv1 : Value → Option PV
  | .int k n => some (.int k n)
  | .bool b => some (.bool b)
  | .string s => some (.str s)
  | .slice none 0 0 => some .nils
  | .pointer none => some .nilp
  | .nilFunc => some .nilf
  | .nilIface => some .nili
  | .map none => some .nilm
  | _ => none
def pvs : List Value → Option (List PV)
  | [] => some []
  | v :: r => match pv1 v, pvs r with
    | some x, some l => some (x :: l)
    | _, _ => none

def isAggV : Value → Bool
  | .agg _ => true
  | _ => false
def fieldsOk (P : Program) (d : TypeDesc) (t : Nat) : Bool :=
  match d with
  | .struct fs => fs.toList.all (fun f => (P.info? f.type).isSome) && !P.stoodInHeld t
  | _ => true

def aggOk (d : TypeDesc) (n : Nat) (z : Value) : Bool := (!isAggD d || isAggV z) && (isAggD d || (decide (n = 1) && !isAggV z))

/-- What a program tells of a type. -/
def tiOf (P : Program) (t : Nat) : Option TI :=
  match P.underlying t, P.info? t with
  | some d, some inf => match inf.zero with
    | some z => match pvs z.cells.toList with
      | some zs => if (decide (zs.length = inf.size) && aggOk d inf.size z && fieldsOk P d t) = true then some ⟨d, inf.size, inf.bytes, zs⟩ else none
      | none => none
    | none => none
  | _, _ => none

theorem pv1_rep {M : Addr → Option Value} {v : Value} {x : PV} (h : pv1 v = some x) : PRep M x v ∧ (AV.p x).one = true := by
  unfold pv1 at h
  split at h <;> cases h
  · exact ⟨.int _ _, rfl⟩
  · exact ⟨.bool _, rfl⟩
  · exact ⟨.str _, rfl⟩
  · exact ⟨.nils, rfl⟩
  · exact ⟨.nilp, rfl⟩
  · exact ⟨.nilf, rfl⟩
  · exact ⟨.nili, rfl⟩
  · exact ⟨.nilm, rfl⟩

theorem pvs_rep {M : Addr → Option Value} : ∀ {l : List Value} {zs : List PV}, pvs l = some zs → zs.length = l.length ∧ ∀ k, k < zs.length → PRep M (zs.getD k .nils) (l.getD k Go.undef) ∧ (AV.p (zs.getD k .nils)).one = true
  | [], zs, h => by simp [pvs] at h; subst h; simp
  | v :: r, zs, h => by
    simp only [pvs] at h
    split at h
    · rename_i x l h1 h2
      cases h
      obtain ⟨h3, h4⟩ := pvs_rep h2
      refine ⟨by simp [h3], fun k hk => ?_⟩
      cases k with
      | zero => exact pv1_rep h1
      | succ k => simpa using h4 k (by simpa using hk)
    · cases h

theorem tiOf_ok {P : Program} {t : Nat} {i : TI} (h : tiOf P t = some i) : ∃ inf z, P.underlying t = some i.desc ∧ P.info? t = some inf ∧ inf.size = i.size ∧ inf.bytes = i.bytes ∧ inf.zero = some z ∧ pvs z.cells.toList = some i.zero ∧
    i.zero.length = i.size ∧ (isAggD i.desc = true → isAggV z = true) ∧ (isAggD i.desc = false → i.size = 1 ∧ isAggV z = false) ∧ fieldsOk P i.desc t = true := by
  unfold tiOf at h
  split at h
  · rename_i d inf h1 h2
    split at h
    · rename_i z h3
      split at h
      · rename_i zs h4
        split at h
        · rename_i hc
          cases h
          simp only [Bool.and_eq_true, decide_eq_true_eq] at hc
          obtain ⟨⟨h5, h6⟩, h7⟩ := hc
          refine ⟨inf, z, h1, h2, rfl, rfl, h3, h4, h5, fun ha => ?_, fun ha => ?_, h7⟩
          · simp only [aggOk, ha] at h6; simpa using h6
          · simp only [aggOk, ha] at h6; simpa using h6
        · cases h
      · cases h
    · cases h
  · cases h

/-- A table that tells of types what the program tells. -/
theorem tab_ok {T : Tab} {P : Program} (h : ∀ t i, T.info t = some i → tiOf P t = some i) : T.Ok P := by
  refine ⟨fun t i hi => ?_, fun t i fs hi hd => ?_⟩
  · obtain ⟨inf, z, h1, h2, h3, h4, h5, h6, h7, h8, h9, h10⟩ := tiOf_ok (h t i hi)
    obtain ⟨k1, k2⟩ := pvs_rep (M := fun _ => none) h6
    have hzs : z.cells.size = i.size := by simp at k1; omega
    refine ⟨h1, inf, z, h2, h3, h4, h5, hzs, h7, fun k hk => ?_, fun ha => ?_, fun ha => ?_⟩
    · have := k2 k hk
      have e : z.cells.toList.getD k Go.undef = z.cells.getD k Go.undef := by simp [List.getD_eq_getElem?_getD, Array.getD_eq_getD_getElem?]
      rw [e] at this
      exact this
    · have := h8 ha
      cases z <;> first | rfl | (simp [isAggV] at this)
    · obtain ⟨h11, h12⟩ := h9 ha
      refine ⟨h11, ?_⟩
      cases z <;> first | rfl | (simp [isAggV] at h12)
  · obtain ⟨inf, z, h1, h2, h3, h4, h5, h6, h7, h8, h9, h10⟩ := tiOf_ok (h t i hi)
    rw [hd] at h10
    simp only [fieldsOk, Bool.and_eq_true, List.all_eq_true, Bool.not_eq_true'] at h10
    exact h10
end Go.En
