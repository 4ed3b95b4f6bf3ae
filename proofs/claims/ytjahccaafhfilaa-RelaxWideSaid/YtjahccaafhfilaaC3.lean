/- The evaluation in steps for the simplifier: no conditions. -/
import Derived.Test.YtjahccaafhfilaaC1
namespace Go.En

/-! The evaluation in steps that a simplifier takes one by one: what stands behind a step is kept as data. -/

def okG (g : Option Bool) (ok : Bool) : Bool := match g with
  | none => ok
  | some b => !b || ok
def retO (nt : Nat) (d : Option Nat) (g : Option Bool) (s : St) (r : O) (K : Bool) : Option St :=
  obind (chk (dstOk nt d)) fun _ => obind (chk (okG g (r.ok && K))) fun _ => some ⟨putO s.tm d (mkg g r.v), s.hp⟩
def badO (nt : Nat) (d : Option Nat) (g : Option Bool) (s : St) (K : Bool) : Option St :=
  obind (chk (dstOk nt d)) fun _ => obind (chk (okG g K)) fun _ => if g.getD true = true then none else some ⟨putO s.tm d (.gd false .undef), s.hp⟩
def mkO (nt : Nat) (d : Option Nat) (g : Option Bool) (s : St) (a : A) (K : Bool) : Option St :=
  obind (chk (dstOk nt d)) fun _ => obind (chk (okG g (a.ok && K))) fun _ => some ⟨putO s.tm d (mkg g (a.mk s.hp.length)), s.hp ++ a.obj s.hp.length :: a.aux⟩
def wrO (nt : Nat) (d : Option Nat) (free : Bool) (g : Option Bool) (s : St) (r : Option (Hp × AV)) (K : Bool) : Option St :=
  obind (chk (dstOk nt d)) fun _ => obind (chk (okG g K)) fun _ =>
    if g.getD true = true then if free = true then none else obind r fun r => some ⟨putO s.tm d (mkg g r.2), r.1⟩
    else some ⟨putO s.tm d (.gd false .undef), s.hp⟩
def anyO (nt : Nat) (d : Option Nat) (g : Option Bool) (s : St) (r : Option O) (K : Bool) : Option St := match r with
  | some r => retO nt d g s r K
  | none => badO nt d g s K

def evU (x : X) (rd : Hp) (free : Bool) (g : Option Bool) (d : Option Nat) (op : Op) (s : St) : Option St := evOp x rd free g ⟨d, op, 0, "", #[], none⟩ s
def gSlot (ops : List Oper) (j : Nat) : Option Nat := (ops[j]?).bind (·.dst)
def gdU (x : X) (rd : Hp) (free : Bool) (w : Bool) (v : AV) (d : Option Nat) (op : Op) (s : St) : Option St := match v with
  | .p (.bool b) => evU x rd free (some (b == w)) d op s
  | .gd c (.p (.bool b)) => evU x rd free (some (c && b == w)) d op s
  | _ => none
def lookO (tm : Tm) : Option Nat → AV
  | none => .undef
  | some d => look tm d
def evG (x : X) (ops : List Oper) (rd : Hp) (free : Bool) (o : Oper) (s : St) : Option St := obind (guardOf ops s.tm o.guard) fun g => evOp x rd free g o s

@[simp] theorem gSlot_zero (o : Oper) (r : List Oper) : gSlot (o :: r) 0 = o.dst := rfl
@[simp] theorem gSlot_succ (o : Oper) (r : List Oper) (n : Nat) : gSlot (o :: r) (n + 1) = gSlot r n := rfl
@[simp] theorem lookO_some (tm : Tm) (d : Nat) : lookO tm (some d) = look tm d := rfl
@[simp ↓] theorem evG_none (x : X) (ops : List Oper) (rd : Hp) (free : Bool) (d : Option Nat) (op : Op) (ty : Nat) (pos : String) (af : Array Edge) (s : St) :
    evG x ops rd free ⟨d, op, ty, pos, af, none⟩ s = evU x rd free none d op s := rfl
@[simp ↓] theorem evG_some (x : X) (ops : List Oper) (rd : Hp) (free : Bool) (d : Option Nat) (op : Op) (ty : Nat) (pos : String) (af : Array Edge) (j : Nat) (w : Bool) (s : St) :
    evG x ops rd free ⟨d, op, ty, pos, af, some (j, w)⟩ s = gdU x rd free w (lookO s.tm (gSlot ops j)) d op s := by
  simp only [evG, guardOf, gSlot, gdU, evU]
  cases h : (ops[j]?).bind (·.dst) with
  | none => rfl
  | some k =>
    simp only [lookO]
    cases look s.tm k with
    | p y => cases y <;> rfl
    | gd c v => cases v with
      | p y => cases y <;> rfl
      | _ => rfl
    | _ => rfl
@[simp] theorem gdU_bool (x : X) (rd : Hp) (free w b : Bool) (d : Option Nat) (op : Op) (s : St) : gdU x rd free w (.p (.bool b)) d op s = evU x rd free (some (b == w)) d op s := rfl
@[simp] theorem gdU_gd (x : X) (rd : Hp) (free w b c : Bool) (d : Option Nat) (op : Op) (s : St) : gdU x rd free w (.gd c (.p (.bool b))) d op s = evU x rd free (some (c && b == w)) d op s := rfl

/-- A region, begun. -/
def goS (x : X) (ops l : List Oper) (a : Option St) : Option St := obind a fun s => evSeq x ops l s
def goF (x : X) (ops l : List Oper) (sq : List Nat) (lt : Option (Nat × Nat × List Nat)) (j : Nat) (rd : Hp) (a : Option St) : Option St := obind a fun s => evFree x ops sq lt l j rd s
/-- Behind an operation that stands between all others memory is read anew. -/
def goFs (x : X) (ops l : List Oper) (sq : List Nat) (lt : Option (Nat × Nat × List Nat)) (j : Nat) (a : Option St) : Option St := obind a fun s => evFree x ops sq lt l j s.hp s
def evGL (x : X) (ops : List Oper) (wid : Nat) (o : Oper) (s : St) : Option St := obind (guardOf ops s.tm o.guard) fun g => evLate x wid g o s
def mkL (wid a : Nat) (r : Option St) : Option St := obind r fun s => if wid < a ∨ s.hp.length ≤ wid then some s else none
@[simp] theorem mkL_some (wid a : Nat) (s : St) : mkL wid a (some s) = if wid < a ∨ s.hp.length ≤ wid then some s else none := rfl
@[simp] theorem goS_nil (x : X) (ops : List Oper) (s : St) : goS x ops [] (some s) = some s := rfl
@[simp] theorem goS_cons (x : X) (ops : List Oper) (o : Oper) (r : List Oper) (s : St) : goS x ops (o :: r) (some s) = goS x ops r (evG x ops s.hp false o s) := by
  simp only [goS, obind_some, evSeq, evG]
  cases guardOf ops s.tm o.guard <;> rfl
@[simp] theorem goF_nil (x : X) (ops : List Oper) (sq : List Nat) (lt : Option (Nat × Nat × List Nat)) (j : Nat) (rd : Hp) (s : St) : goF x ops [] sq lt j rd (some s) = some s := rfl
@[simp] theorem goF_cons (x : X) (ops : List Oper) (o : Oper) (r : List Oper) (sq : List Nat) (j : Nat) (rd : Hp) (s : St) :
    goF x ops (o :: r) sq none j rd (some s) = if sq.contains j = true then goFs x ops r sq none (j + 1) (evG x ops s.hp false o s) else goF x ops r sq none (j + 1) rd (evG x ops rd true o s) := by
  simp only [goF, goFs, obind_some, evFree, evG, isLate, lateRd, lateMk, ocase_none, chk_true]
  cases guardOf ops s.tm o.guard <;> by_cases h : sq.contains j = true <;> simp only [obind_none, obind_some, h, if_true] <;> rfl
@[simp] theorem goF_cons_late (x : X) (ops : List Oper) (o : Oper) (r : List Oper) (sq : List Nat) (k wid : Nat) (an : List Nat) (j : Nat) (rd : Hp) (s : St) :
    goF x ops (o :: r) sq (some (k, wid, an)) j rd (some s) = if sq.contains j = true then goFs x ops r sq (some (k, wid, an)) (j + 1) (evG x ops s.hp false o s)
      else if j = k then goF x ops r sq (some (k, wid, an)) (j + 1) rd (evGL x ops wid o s)
      else if an.contains j = true then goF x ops r sq (some (k, wid, an)) (j + 1) rd (evG x ops rd true o s)
      else goF x ops r sq (some (k, wid, an)) (j + 1) rd (mkL wid s.hp.length (evG x ops (rd.set wid .dead) true o s)) := by
  simp only [goF, goFs, obind_some, evFree, evG, evGL, isLate, lateRd, lateMk, mkL]
  cases guardOf ops s.tm o.guard with
  | none => simp only [obind_none]; split <;> (try rfl); split <;> (try rfl); split <;> rfl
  | some g =>
    simp only [obind_some]
    split
    · rfl
    · split
      · rename_i h; simp only [ocase_some]
      · rename_i h
        simp only [ocase_none]
        split
        · rename_i h2
          simp only [h2, Bool.true_or, chk_true, obind_some]
        · rename_i h2
          simp only [h2, Bool.false_or]
          cases evOp x (rd.set wid .dead) true g o s with
          | none => rfl
          | some s' =>
            simp only [obind_some, obind_chk, decide_eq_true_eq]
            split <;> rfl
@[simp] theorem goFs_nil (x : X) (ops : List Oper) (sq : List Nat) (lt : Option (Nat × Nat × List Nat)) (j : Nat) (s : St) : goFs x ops [] sq lt j (some s) = some s := rfl
@[simp] theorem goFs_cons (x : X) (ops : List Oper) (o : Oper) (r : List Oper) (sq : List Nat) (lt : Option (Nat × Nat × List Nat)) (j : Nat) (s : St) :
    goFs x ops (o :: r) sq lt j (some s) = goF x ops (o :: r) sq lt j s.hp (some s) := rfl
/-- The late write itself. -/
def late1 (wid : Nat) (id : Option Nat) (n : Nat) (r : Option St) : Option St := if id = some wid ∧ wid < n then r else none
@[simp] theorem late1_eq (wid : Nat) (id : Option Nat) (n : Nat) (r : Option St) : late1 wid id n r = if id = some wid ∧ wid < n then r else none := rfl
@[simp ↓] theorem evGL_none (x : X) (ops : List Oper) (wid : Nat) (d : Option Nat) (op : Op) (ty : Nat) (pos : String) (af : Array Edge) (s : St) :
    evGL x ops wid ⟨d, op, ty, pos, af, none⟩ s = late1 wid (lateId s.tm op) s.hp.length (evU x s.hp false none d op s) := by
  simp only [evGL, guardOf, obind_some, evLate, late1, Option.getD_none, and_true]
  rfl
def addrId : AV → Option Nat
  | .ref id _ => some id
  | .elt id _ _ _ => some id
  | _ => none
def rowId : AV → Option Nat
  | .arr id _ _ _ => some id
  | _ => none
@[simp] theorem addrId_ref (a b : Nat) : addrId (.ref a b) = some a := rfl
@[simp] theorem addrId_elt (a b c d : Nat) : addrId (.elt a b c d) = some a := rfl
@[simp] theorem rowId_arr (a b c d : Nat) : rowId (.arr a b c d) = some a := rfl
@[simp] theorem lateId_store (tm : Tm) (t : Nat) (a v : Operand) : lateId tm (.store t a v) = addrId (uv (evo tm a)) := by
  simp only [lateId, addrId]; rfl
@[simp] theorem lateId_append (tm : Tm) (a b : Operand) (ts : Array Nat) : lateId tm (.call ⟨.builtin .append, #[a, b], ts⟩) = rowId (uv (evo tm a)) := by
  simp only [lateId, rowId, evs, List.map_cons, List.map_nil]
  cases uv (evo tm a) <;> rfl

-- ---------------------------------------------------------------- code
def regC (a : Option St) : Option (Ex × St) := obind a fun s => some (.nor, s)
@[simp] theorem regC_some (s : St) : regC (some s) = some (.nor, s) := rfl
def seqC (x : X) (r : Option (Ex × St)) (b : Code) : Option (Ex × St) := seqk r fun s => evc x b 0 s
@[simp] theorem seqC_nor (x : X) (s : St) (b : Code) : seqC x (some (.nor, s)) b = evc x b 0 s := rfl
@[simp] theorem seqC_exit (x : X) (i : Nat) (s : St) (b : Code) : seqC x (some (.exit i, s)) b = some (.exit i, s) := rfl
@[simp] theorem seqC_ret (x : X) (s : St) (b : Code) : seqC x (some (.ret, s)) b = some (.ret, s) := rfl
def condC (x : X) (v : AV) (a b : Code) (s : St) : Option (Ex × St) := match v with
  | .p (.bool t) => if t = true then evc x a 0 s else evc x b 0 s
  | _ => none
@[simp] theorem condC_bool (x : X) (t : Bool) (a b : Code) (s : St) : condC x (.p (.bool t)) a b s = if t = true then evc x a 0 s else evc x b 0 s := rfl
@[simp ↓] theorem evc_skip (x : X) (i : Nat) (s : St) : evc x .skip i s = some (.nor, s) := rfl
@[simp ↓] theorem evc_label (x : X) (i l : Nat) (s : St) : evc x (.label l) i s = some (.nor, s) := rfl
@[simp ↓] theorem evc_exit (x : X) (i l : Nat) (s : St) : evc x (.exit l) i s = some (.exit l, s) := rfl
@[simp ↓] theorem evc_ret (x : X) (i : Nat) (s : St) : evc x .ret i s = some (.ret, s) := rfl
@[simp ↓] theorem evc_seq (x : X) (a b : Code) (i : Nat) (s : St) : evc x (.seq a b) i s = seqC x (evc x a 0 s) b := rfl
@[simp ↓] theorem evc_block (x : X) (k i : Nat) (c : Code) (s : St) : evc x (.block k c) i s = blockk k (evc x c k s) := rfl
@[simp ↓] theorem evc_cond (x : X) (c : Operand) (a b : Code) (i : Nat) (s : St) : evc x (.cond c a b) i s = condC x (evo s.tm c) a b s := rfl
@[simp ↓] theorem evc_draw (x : X) (id : Nat) (ops : Array Oper) (i : Nat) (s : St) : evc x (.region id ops true) i s = regC (goF x ops.toList ops.toList (x.T.seqs x.f id) (x.T.late x.f id) 0 s.hp (some s)) := rfl
@[simp ↓] theorem evc_seqr (x : X) (id : Nat) (ops : Array Oper) (i : Nat) (s : St) : evc x (.region id ops false) i s = regC (goS x ops.toList ops.toList (some s)) := rfl
@[simp ↓] theorem evc_loop (x : X) (c : Code) (i : Nat) (s : St) : evc x (.loop c) i s = iter (evc x c 0) (x.T.keep x.f i) s.hp.length x.fuel s := rfl
attribute [simp] blockk_none blockk_nor blockk_ret blockk_exit

/-- A loop's round; what comes behind it is told its state as the next round has it. -/
def roundN (ks : List Nat) (m : Nat) (r : Option (Ex × St)) (K : St → Option (Ex × St)) : Option (Ex × St) :=
  match r with
  | none => none
  | some (.nor, s) => K (norm ks m s)
  | some (.exit id, s) => some (.exit id, norm ks m s)
  | some (.ret, s) => some (.ret, norm ks m s)
@[simp] theorem roundN_nor (ks : List Nat) (m : Nat) (K : St → Option (Ex × St)) (s : St) : roundN ks m (some (.nor, s)) K = K (norm ks m s) := rfl
@[simp] theorem roundN_exit (ks : List Nat) (m i : Nat) (K : St → Option (Ex × St)) (s : St) : roundN ks m (some (.exit i, s)) K = some (.exit i, norm ks m s) := rfl
@[simp] theorem roundN_ret (ks : List Nat) (m : Nat) (K : St → Option (Ex × St)) (s : St) : roundN ks m (some (.ret, s)) K = some (.ret, norm ks m s) := rfl

def iterN (body : St → Option (Ex × St)) (ks : List Nat) (m : Nat) : Nat → St → Option (Ex × St)
  | 0, _ => none
  | n + 1, s => roundk ks m (body s) fun s' => iter body ks m n s'
theorem iter_eq (body : St → Option (Ex × St)) (ks : List Nat) (m n : Nat) (s : St) : iter body ks m n s = iterN body ks m n (norm ks m s) := by
  cases n <;> rfl
theorem roundk_N (body : St → Option (Ex × St)) (ks : List Nat) (m n : Nat) (r : Option (Ex × St)) : roundk ks m r (fun s' => iter body ks m n s') = roundN ks m r (iterN body ks m n) := by
  match r with
  | none => rfl
  | some (.nor, s) => exact iter_eq body ks m n s
  | some (.exit _, s) => rfl
  | some (.ret, s) => rfl

theorem iterN_rule {body : St → Option (Ex × St)} {ks : List Nat} {m : Nat} (N : Nat) (S : Nat → St) (res : Nat → Option (Ex × St))
    (hstep : ∀ k, k ≤ N → ∀ K : St → Option (Ex × St), (k < N → K (S (k + 1)) = res (k + 1)) → roundN ks m (body (S k)) K = res k) :
    ∀ fuel k, k ≤ N → N - k < fuel → iterN body ks m fuel (S k) = res k := by
  intro fuel
  induction fuel with
  | zero => intro k _ h; omega
  | succ f ih =>
    intro k hk hf
    simp only [iterN]
    rw [roundk_N]
    exact hstep k hk _ fun hlt => ih (k + 1) hlt (by omega)

/-- A loop of at most N + 1 rounds: what the k-th round begins with (S), and what the loop comes to from there (res). -/
theorem iter_rule (N : Nat) (S : Nat → St) (res : Nat → Option (Ex × St)) {body : St → Option (Ex × St)} {ks : List Nat} {m fuel : Nat} {s : St}
    (hN : N < fuel) (hs : norm ks m s = S 0)
    (hstep : ∀ k, k ≤ N → ∀ K : St → Option (Ex × St), (k < N → K (S (k + 1)) = res (k + 1)) → roundN ks m (body (S k)) K = res k) :
    iter body ks m fuel s = res 0 := by
  rw [iter_eq, hs]
  exact iterN_rule N S res hstep fuel 0 (Nat.zero_le _) (by omega)

end Go.En
namespace Go.En
/-! Each operation, in one step. -/

theorem evU_A {x : X} {rd : Hp} {free : Bool} {g : Option Bool} {d : Option Nat} {op : Op} {s : St} {a : A} (h : opA x.T (ownD x.T x.f d) rd s.tm op = some a) :
    evU x rd free g d op s = mkO x.nt d g s a (opK (g.getD true) s.tm op) := by
  simp only [evU, evOp, h, ocase_some, mkO]
  cases g with
  | none => simp [okG]
  | some b => simp [okG]
theorem evU_V {x : X} {rd : Hp} {free : Bool} {g : Option Bool} {d : Option Nat} {op : Op} {s : St} {r : O} (h : opA x.T (ownD x.T x.f d) rd s.tm op = none) (h2 : opV x.T rd s.tm op = some r) :
    evU x rd free g d op s = retO x.nt d g s r (opK (g.getD true) s.tm op) := by
  simp only [evU, evOp, h, h2, ocase_some, ocase_none, retO]
  cases g with
  | none => simp [okG]
  | some b => simp [okG]
theorem evU_bad {x : X} {rd : Hp} {free : Bool} {g : Option Bool} {d : Option Nat} {op : Op} {s : St} (h : opA x.T (ownD x.T x.f d) rd s.tm op = none) (h2 : opV x.T rd s.tm op = none) (h3 : calleeFn op = none) (h4 : opW x.T s.hp s.tm op = none) :
    evU x rd free g d op s = badO x.nt d g s (opK (g.getD true) s.tm op) := by
  simp only [evU, evOp, h, h2, h3, h4, ocase_none, badO]
  cases g with
  | none => cases free <;> simp [okG, obind_none]
  | some b => cases b <;> cases free <;> simp [okG, obind_none]
theorem evU_any {x : X} {rd : Hp} {free : Bool} {g : Option Bool} {d : Option Nat} {op : Op} {s : St} {r : Option O} (h : opA x.T (ownD x.T x.f d) rd s.tm op = none) (h2 : opV x.T rd s.tm op = r) (h3 : calleeFn op = none) (h4 : opW x.T s.hp s.tm op = none) :
    evU x rd free g d op s = anyO x.nt d g s r (opK (g.getD true) s.tm op) := by
  cases r with
  | some r => exact evU_V h h2
  | none => exact evU_bad h h2 h3 h4
theorem evU_W {x : X} {rd : Hp} {free : Bool} {g : Option Bool} {d : Option Nat} {op : Op} {s : St} {r : Option (Hp × AV)} (h : opA x.T (ownD x.T x.f d) rd s.tm op = none) (h2 : opV x.T rd s.tm op = none) (h3 : calleeFn op = none) (h4 : opW x.T s.hp s.tm op = r) :
    evU x rd free g d op s = wrO x.nt d free g s r (opK (g.getD true) s.tm op) := by
  simp only [evU, evOp, h, h2, h3, h4, ocase_none, wrO]
  cases g with
  | none => simp [okG]
  | some b => cases b <;> simp [okG]

/-- That an operand may be used where the operation is carried out. -/
theorem okG_uk (g : Option Bool) (ok K K' : Bool) (h : g.getD true = true → K = K') : okG g (ok && K) = okG g (ok && K') := by
  cases g with
  | none => simp [h rfl]
  | some b => cases b with
    | false => rfl
    | true => simp [okG, h rfl]
theorem retO_K {nt : Nat} {d : Option Nat} {g : Option Bool} {s : St} {r : O} {K K' : Bool} (h : g.getD true = true → K = K') : retO nt d g s r K = retO nt d g s r K' := by
  simp only [retO, okG_uk g r.ok K K' h]
theorem okG_uk' (g : Option Bool) (K K' : Bool) (h : g.getD true = true → K = K') : okG g K = okG g K' := by
  have := okG_uk g true K K' h
  simpa using this
theorem badO_K {nt : Nat} {d : Option Nat} {g : Option Bool} {s : St} {K K' : Bool} (h : g.getD true = true → K = K') : badO nt d g s K = badO nt d g s K' := by
  simp only [badO, okG_uk' g K K' h]
theorem anyO_K {nt : Nat} {d : Option Nat} {g : Option Bool} {s : St} {r : Option O} {K K' : Bool} (h : g.getD true = true → K = K') : anyO nt d g s r K = anyO nt d g s r K' := by
  cases r with
  | none => exact badO_K h
  | some r => exact retO_K h
theorem mkO_K {nt : Nat} {d : Option Nat} {g : Option Bool} {s : St} {a : A} {K K' : Bool} (h : g.getD true = true → K = K') : mkO nt d g s a K = mkO nt d g s a K' := by
  simp only [mkO, okG_uk g a.ok K K' h]
theorem wrO_K {nt : Nat} {d : Option Nat} {free : Bool} {g : Option Bool} {s : St} {r : Option (Hp × AV)} {K K' : Bool} (h : g.getD true = true → K = K') : wrO nt d free g s r K = wrO nt d free g s r K' := by
  simp only [wrO, okG_uk' g K K' h]

section
variable (x : X) (rd : Hp) (free : Bool) (g : Option Bool) (d : Option Nat) (s : St)

def asgO (x : X) (g : Option Bool) (d : Option Nat) (s : St) (own : Nat) (nil : Bool) (v : AV) : Option St :=
  if own ≠ 0 ∧ nil = true then mkO x.nt d g s ⟨fun id => .arr id 0 0 0, fun _ => .arr 0 own false [], [], true⟩ true
  else retO x.nt d g s ⟨uv v, true⟩ (uk true v)

@[simp ↓] theorem evU_move (a : Operand) : evU x rd free g d (.move a) s = retO x.nt d g s ⟨uv (evo s.tm a), true⟩ (uk true (evo s.tm a)) := by
  rw [evU_V rfl rfl]; exact retO_K fun h => by simp [opK, eks, Op.operands, h]
@[simp ↓] theorem evU_assign (a : Operand) : evU x rd free g d (.assign a) s = asgO x g d s (ownD x.T x.f d) (isNilS a) (evo s.tm a) := by
  unfold asgO
  split
  · rename_i h
    rw [evU_A (by simp only [opA]; rw [if_pos h])]
    refine mkO_K fun hg => ?_
    have hn := h.2
    unfold isNilS at hn
    split at hn
    · simp [opK, eks, Op.operands, evo, ofVal, ofVal1, uk]
    · cases hn
  · rename_i h
    rw [evU_V (by simp only [opA]; rw [if_neg h]) rfl]
    exact retO_K fun h => by simp [opK, eks, Op.operands, h]

def pickW (c a b : AV) : Option O := match uv c with
  | .p (.bool b') => some (pickV b' a b)
  | _ => none
@[simp ↓] theorem evU_pick (c a b : Operand) : evU x rd free g d (.pick c a b) s = anyO x.nt d g s (pickW (evo s.tm c) (evo s.tm a) (evo s.tm b)) (uk true (evo s.tm c)) := by
  rw [evU_any (r := pickW (evo s.tm c) (evo s.tm a) (evo s.tm b)) rfl (by simp only [opV, pickW]; rfl) rfl rfl]; exact anyO_K fun h => by simp [opK, h]
@[simp ↓] theorem evU_load (t : Nat) (a : Operand) : evU x rd free g d (.load t a) s = retO x.nt d g s (loadV x.T rd t (uv (evo s.tm a))) (uk true (evo s.tm a)) := by
  rw [evU_V rfl rfl]; exact retO_K fun h => by simp [opK, eks, Op.operands, h]
def nilC : AV → Option O
  | .p (.ptr cs o) => some ⟨.p (.ptr cs o), true⟩
  | .ref i o => some ⟨.ref i o, true⟩
  | .elt i g n o => some ⟨.elt i g n o, true⟩
  | _ => none
@[simp ↓] theorem evU_nilCheck (a : Operand) : evU x rd free g d (.nilCheck a) s = anyO x.nt d g s (nilC (uv (evo s.tm a))) (uk true (evo s.tm a)) := by
  rw [evU_any (r := nilC (uv (evo s.tm a))) rfl (by simp only [opV, nilC]; rfl) rfl rfl]; exact anyO_K fun h => by simp [opK, eks, Op.operands, h]
def binU (T : Tab) (op : BinOp) (t : Nat) (a b : AV) : Option O := match a, b with
  | .agg a, .agg b => match descOf T t, op with
    | some (.struct fs), .eql => some (.of ((eqFs T 0 fs.toList a b).map fun r => .p (.bool r)))
    | some (.struct fs), .neq => some (.of ((eqFs T 0 fs.toList a b).map fun r => .p (.bool !r)))
    | _, _ => none
  | a, b => match descOf T t with
    | some d => some (binV d op a b)
    | _ => none
@[simp ↓] theorem evU_binOp (op : BinOp) (t t' : Nat) (a b : Operand) : evU x rd free g d (.binOp op t a b t') s = anyO x.nt d g s (binU x.T op t (uv (evo s.tm a)) (uv (evo s.tm b))) (uk true (evo s.tm a) && uk true (evo s.tm b)) := by
  rw [evU_any (r := binU x.T op t (uv (evo s.tm a)) (uv (evo s.tm b))) rfl rfl rfl rfl]; exact anyO_K fun h => by simp [opK, eks, Op.operands, h]
@[simp ↓] theorem evU_unOp (op : UnOp) (t : Nat) (a : Operand) : evU x rd free g d (.unOp op t a) s = retO x.nt d g s (unV op (uv (evo s.tm a))) (uk true (evo s.tm a)) := by
  rw [evU_V rfl rfl]; exact retO_K fun h => by simp [opK, eks, Op.operands, h]
@[simp ↓] theorem evU_convert (t t' : Nat) (a : Operand) : evU x rd free g d (.convert t t' a) s = retO x.nt d g s (convV x.T t t' (uv (evo s.tm a))) (uk true (evo s.tm a)) := by
  rw [evU_V rfl rfl]; exact retO_K fun h => by simp [opK, eks, Op.operands, h]
@[simp ↓] theorem evU_makeFunc (f : Nat) (caps : Array Operand) : evU x rd free g d (.makeFunc (.func f) #[] caps) s = retO x.nt d g s ⟨.fn f (evs s.tm caps.toList), true⟩ (eks true s.tm caps.toList) := by
  rw [evU_V rfl rfl]; exact retO_K fun h => by simp [opK, h]
@[simp ↓] theorem evU_slice (t : Nat) (a : Operand) (lo hi : Option Operand) : evU x rd free g d (.slice t a lo hi none) s = retO x.nt d g s (sliceV x.T rd t (uv (evo s.tm a)) (lo.map fun y => uv (evo s.tm y)) (hi.map fun y => uv (evo s.tm y))) (eks true s.tm (a :: (lo.toList ++ hi.toList))) := by
  rw [evU_V rfl rfl]; exact retO_K fun h => by simp [opK, eks, Op.operands, h]
@[simp ↓] theorem evU_fieldAddr (t f : Nat) (a : Operand) : evU x rd free g d (.fieldAddr t a f) s = retO x.nt d g s (fieldV x.T t (uv (evo s.tm a)) f) (uk true (evo s.tm a)) := by
  rw [evU_V rfl rfl]; exact retO_K fun h => by simp [opK, eks, Op.operands, h]
@[simp ↓] theorem evU_field (t f : Nat) (a : Operand) : evU x rd free g d (.field t a f) s = retO x.nt d g s (partV x.T t (uv (evo s.tm a)) f) (uk true (evo s.tm a)) := by
  rw [evU_V rfl rfl]; exact retO_K fun h => by simp [opK, eks, Op.operands, h]
@[simp ↓] theorem evU_indexAddr (t : Nat) (a b : Operand) : evU x rd free g d (.indexAddr t a b) s = retO x.nt d g s (indexAddrV x.T rd t (uv (evo s.tm a)) (uv (evo s.tm b))) (uk true (evo s.tm a) && uk true (evo s.tm b)) := by
  rw [evU_V rfl rfl]; exact retO_K fun h => by simp [opK, eks, Op.operands, h]
@[simp ↓] theorem evU_index (t : Nat) (a b : Operand) : evU x rd free g d (.index t a b) s = retO x.nt d g s (indexV x.T t (uv (evo s.tm a)) (uv (evo s.tm b))) (uk true (evo s.tm a) && uk true (evo s.tm b)) := by
  rw [evU_V rfl rfl]; exact retO_K fun h => by simp [opK, eks, Op.operands, h]
def parts (tm : Tm) : List (Nat × Operand) → List (Nat × AV)
  | [] => []
  | (i, y) :: r => (i, uv (evo tm y)) :: parts tm r
def partsK (tm : Tm) : List (Nat × Operand) → Bool
  | [] => true
  | (_, y) :: r => uk true (evo tm y) && partsK tm r
theorem parts_eq (tm : Tm) (l : List (Nat × Operand)) : (l.map fun (i, x) => (i, uv (evo tm x))) = parts tm l := by
  induction l with
  | nil => rfl
  | cons a r ih => simp only [List.map_cons, ih, parts]
theorem partsK_eq (tm : Tm) (l : List (Nat × Operand)) : eks true tm (l.map (·.2)) = partsK tm l := by
  induction l with
  | nil => rfl
  | cons a r ih => rw [List.map_cons, eks, List.all_cons, partsK, ← ih]; rfl
attribute [simp] parts partsK
def bldO (x : X) (g : Option Bool) (d : Option Nat) (s : St) (own : Nat) (r : O) (K : Bool) : Option St :=
  if own = 0 then retO x.nt d g s r K
  else match r.v with
    | .agg cs => mkO x.nt d g s ⟨fun id => .agg ((ownNil (.arr id 0 0 0) cs).getD cs), fun _ => .arr 0 own false [], [], r.ok⟩ K
    | _ => retO x.nt d g s r K
@[simp ↓] theorem evU_build (t : Nat) (ps : Array (Nat × Operand)) : evU x rd free g d (.build t ps) s = bldO x g d s (ownD x.T x.f d) (buildV x.T t (parts s.tm ps.toList)) (partsK s.tm ps.toList) := by
  unfold bldO
  have hK : g.getD true = true → opK (g.getD true) s.tm (.build t ps) = partsK s.tm ps.toList := fun h => by
    rw [h]; exact partsK_eq _ _
  split
  · rename_i h
    rw [evU_V (r := buildV x.T t (parts s.tm ps.toList)) (by simp only [opA]; rw [if_pos h]) (by simp only [opV, parts_eq])]
    exact retO_K hK
  · rename_i h
    split
    · rename_i cs hc
      rw [evU_A (a := ⟨fun id => .agg ((ownNil (.arr id 0 0 0) cs).getD cs), fun _ => .arr 0 (ownD x.T x.f d) false [], [], (buildV x.T t (parts s.tm ps.toList)).ok⟩) (by simp only [opA]; rw [if_neg h]; simp only [parts_eq, hc])]
      exact mkO_K hK
    · rename_i hc
      rw [evU_V (r := buildV x.T t (parts s.tm ps.toList)) (by
        simp only [opA]; rw [if_neg h]; simp only [parts_eq]
        try split
        all_goals try rename_i hx; exact absurd hx (hc _)
        all_goals rfl) (by simp only [opV, parts_eq])]
      exact retO_K hK

def lookU (T : Tab) (h : Hp) (t : Nat) (m k : AV) (c : Bool) : O := lookupV T h t m k c
@[simp ↓] theorem evU_lookup (t : Nat) (a b : Operand) (c : Bool) : evU x rd free g d (.lookup t a b c) s = retO x.nt d g s (lookupV x.T rd t (uv (evo s.tm a)) (uv (evo s.tm b)) c) (uk true (evo s.tm a) && uk true (evo s.tm b)) := by
  rw [evU_V rfl rfl]; exact retO_K fun h => by simp [opK, eks, Op.operands, h]
def extC (i : Nat) : AV → Option O
  | .tup vs => some (.of vs[i]?)
  | _ => none
@[simp ↓] theorem evU_extract (a : Operand) (i : Nat) : evU x rd free g d (.extract a i) s = anyO x.nt d g s (extC i (uv (evo s.tm a))) (uk true (evo s.tm a)) := by
  rw [evU_any (r := extC i (uv (evo s.tm a))) rfl (by simp only [opV, extC]; rfl) rfl rfl]; exact anyO_K fun h => by simp [opK, eks, Op.operands, h]
def lenC (dd : Option TypeDesc) (v : AV) : Option O := match dd, v with
  | some .string, .p (.str s) => some ⟨.p (.int .i64 s.size), true⟩
  | some (.slice _), .p (.sl l) => some ⟨.p (.int .i64 l.length), true⟩
  | some (.slice _), .p .nils => some ⟨.p (.int .i64 0), true⟩
  | some (.slice _), .arr _ _ _ k => some ⟨.p (.int .i64 k), true⟩
  | _, _ => none
@[simp ↓] theorem evU_len (a : Operand) (t : Nat) : evU x rd free g d (.call ⟨.builtin .len, #[a], #[t]⟩) s = anyO x.nt d g s (lenC (descOf x.T t) (uv (evo s.tm a))) (uk true (evo s.tm a)) := by
  rw [evU_any (r := lenC (descOf x.T t) (uv (evo s.tm a))) rfl (by simp only [opV, lenC, evs, List.map_cons, List.map_nil]; rfl) rfl rfl]
  exact anyO_K fun h => by simp [opK, eks, h]
@[simp ↓] theorem evU_max (as : Array Operand) (ts : Array Nat) : evU x rd free g d (.call ⟨.builtin .max, as, ts⟩) s = retO x.nt d g s (.of (minV true (evs s.tm as.toList))) (eks true s.tm as.toList) := by
  rw [evU_V rfl rfl]; exact retO_K fun h => by simp [opK, h]
@[simp ↓] theorem evU_min (as : Array Operand) (ts : Array Nat) : evU x rd free g d (.call ⟨.builtin .min, as, ts⟩) s = retO x.nt d g s (.of (minV false (evs s.tm as.toList))) (eks true s.tm as.toList) := by
  rw [evU_V rfl rfl]; exact retO_K fun h => by simp [opK, h]

-- ---------------------------------------------------------------- blocks
def mkOO (x : X) (g : Option Bool) (d : Option Nat) (s : St) (a : Option A) (K : Bool) : Option St := match a with
  | some a => mkO x.nt d g s a K
  | none => badO x.nt d g s K
theorem evU_AO {a : Option A} {op : Op} (h : opA x.T (ownD x.T x.f d) rd s.tm op = a) (h2 : opV x.T rd s.tm op = none) (h3 : calleeFn op = none) (h4 : opW x.T s.hp s.tm op = none) : evU x rd free g d op s = mkOO x g d s a (opK (g.getD true) s.tm op) := by
  cases a with
  | some a => exact evU_A h
  | none => exact evU_bad h h2 h3 h4
theorem mkOO_K {x : X} {d : Option Nat} {g : Option Bool} {s : St} {a : Option A} {K K' : Bool} (h : g.getD true = true → K = K') : mkOO x g d s a K = mkOO x g d s a K' := by
  cases a with
  | none => exact badO_K h
  | some r => exact mkO_K h
@[simp ↓] theorem evU_alloc (t : Nat) : evU x rd free g d (.alloc t) s = mkOO x g d s ((x.T.info t).map fun i => boxA (ownD x.T x.f d) (i.zero.map .p) true) true := by
  rw [evU_AO _ _ _ _ _ _ (a := (x.T.info t).map fun i => boxA (ownD x.T x.f d) (i.zero.map .p) true) rfl rfl rfl rfl]; rfl
def boxI (own : Nat) (i : Option TI) (v : AV) : Option A := i.map fun i => boxA own v.cells (decide (v.cells.length = i.size ∧ v.cells.all AV.one = true))
@[simp ↓] theorem evU_box (t : Nat) (a : Operand) : evU x rd free g d (.box t a) s = mkOO x g d s (boxI (ownD x.T x.f d) (x.T.info t) (uv (evo s.tm a))) (uk true (evo s.tm a)) := by
  rw [evU_AO _ _ _ _ _ _ (a := boxI (ownD x.T x.f d) (x.T.info t) (uv (evo s.tm a))) rfl rfl rfl rfl]
  exact mkOO_K fun h => by simp [opK, eks, Op.operands, h]
def bslC (e : Option TI) (len : Nat) (ps : List (Nat × AV)) : Option A := e.bind fun e => (fillE e.size (List.replicate len (zeroElem e)) ps).map fun es =>
      ⟨fun id => .arr id 0 0 len, fun _ => .arr 0 e.size false es, [], decide (0 < e.size ∧ len * e.size ≤ 16777216 ∧ (zeroElem e).cells.length = e.size)⟩
@[simp ↓] theorem evU_buildSlice (t len : Nat) (ps : Array (Nat × Operand)) : evU x rd free g d (.buildSlice t len ps) s = mkOO x g d s (bslC (elemOf x.T t) len (parts s.tm ps.toList)) (partsK s.tm ps.toList) := by
  rw [evU_AO _ _ _ _ _ _ (a := bslC (elemOf x.T t) len (parts s.tm ps.toList)) (by simp only [opA, bslC, parts_eq]) rfl rfl rfl]
  exact mkOO_K fun h => by rw [h]; exact partsK_eq _ _
def mslC (e : Option TI) (l c : AV) : Option A := match l, c with
    | .p (.int _ n), .p (.int _ m) => e.map fun e =>
        ⟨fun id => .arr id 0 0 n.toNat, fun _ => .arr 0 e.size false (List.replicate n.toNat (zeroElem e)), [], decide (0 < e.size ∧ 0 ≤ n ∧ n ≤ m ∧ m ≤ 1099511627776 ∧ e.bytes * m ≤ 1099511627776 ∧ (zeroElem e).cells.length = e.size)⟩
    | _, _ => none
@[simp ↓] theorem evU_makeSlice (t : Nat) (l c : Operand) : evU x rd free g d (.makeSlice t l c) s = mkOO x g d s (mslC (elemOf x.T t) (uv (evo s.tm l)) (uv (evo s.tm c))) (uk true (evo s.tm l) && uk true (evo s.tm c)) := by
  rw [evU_AO _ _ _ _ _ _ (a := mslC (elemOf x.T t) (uv (evo s.tm l)) (uv (evo s.tm c))) (by simp only [opA, mslC]; rfl) rfl rfl rfl]
  exact mkOO_K fun h => by simp [opK, eks, Op.operands, h]
@[simp ↓] theorem evU_makeMap (t : Nat) : evU x rd free g d (.makeMap t none) s = mkO x.nt d g s ⟨fun id => .map id, fun _ => .map [], [], true⟩ true := by
  rw [evU_A (a := ⟨fun id => .map id, fun _ => .map [], [], true⟩) rfl]; rfl

-- ---------------------------------------------------------------- writes
@[simp ↓] theorem evU_store (t : Nat) (a b : Operand) : evU x rd free g d (.store t a b) s = wrO x.nt d free g s ((storeW x.T s.hp t (uv (evo s.tm a)) (uv (evo s.tm b))).map fun h => (h, .undef)) (uk true (evo s.tm a) && uk true (evo s.tm b)) := by
  rw [evU_W rfl rfl rfl rfl]; exact wrO_K fun h => by simp [opK, eks, Op.operands, h]
def mupC (T : Tab) (h : Hp) (t : Nat) (mp k v : AV) : Option (Hp × AV) := match mp, k, v, mapDesc T t with
    | .map id, .p k, .p v, some (kd, _) => match h.at id with
      | .map es => if keyOk kd k ∧ keysOk kd es ∧ (AV.p v).one then (mput k v es).map fun es' => (h.set id (.map es'), .undef) else none
      | _ => none
    | _, _, _, _ => none
@[simp ↓] theorem evU_mapUpdate (t : Nat) (m a b : Operand) : evU x rd free g d (.mapUpdate t m a b) s = wrO x.nt d free g s (mupC x.T s.hp t (uv (evo s.tm m)) (uv (evo s.tm a)) (uv (evo s.tm b))) (uk true (evo s.tm m) && (uk true (evo s.tm a) && uk true (evo s.tm b))) := by
  rw [evU_W (r := mupC x.T s.hp t (uv (evo s.tm m)) (uv (evo s.tm a)) (uv (evo s.tm b))) rfl rfl rfl (by simp only [opW, mupC]; rfl)]
  exact wrO_K fun h => by simp [opK, eks, Op.operands, h]
def delC (T : Tab) (h : Hp) (t : Nat) (mp k : AV) : Option (Hp × AV) := match mp, k with
      | .map id, .p k => match h.at id, mapDesc T t with
        | .map es, some (kd, _) => if keyOk kd k ∧ keysOk kd es then (mdel k es).map fun es' => (h.set id (.map es'), .tup []) else none
        | _, _ => none
      | _, _ => none
@[simp ↓] theorem evU_delete (m a : Operand) (t t' : Nat) : evU x rd free g d (.call ⟨.builtin .delete, #[m, a], #[t, t']⟩) s = wrO x.nt d free g s (delC x.T s.hp t (uv (evo s.tm m)) (uv (evo s.tm a))) (uk true (evo s.tm m) && uk true (evo s.tm a)) := by
  rw [evU_W (r := delC x.T s.hp t (uv (evo s.tm m)) (uv (evo s.tm a))) rfl rfl rfl (by simp only [opW, delC, evs, List.map_cons, List.map_nil]; cases uv (evo s.tm m) <;> cases uv (evo s.tm a) <;> rfl)]
  exact wrO_K fun h => by simp [opK, eks, h]
def appA (e e' : Option TI) (xs : Option (List PV)) : Option A := match e, e' with
  | some e, some _ => xs.map fun xs => ⟨fun id => .arr id 0 0 xs.length, fun _ => .arr 0 e.size false xs, [], decide (0 < e.size ∧ xs.length * e.bytes ≤ 1099511627776 ∧ xs.length ≤ 1099511627776 ∧ ∀ y ∈ xs, y.cells.length = e.size)⟩
  | _, _ => none
def appW (h : Hp) (id gn off len : Nat) (e e' : Option TI) (xs : Option (List PV)) : Option (Hp × AV) := match h.at id, e, e', xs with
        | .arr g' sz sh es, some e, some _, some xs =>
          if gn = g' ∧ 0 < sz ∧ sz = e.size ∧ (len + xs.length) * e.bytes ≤ 1099511627776 ∧ len + xs.length ≤ 1099511627776 ∧ (∀ y ∈ xs, y.cells.length = e.size) then
            if off + len = es.length then (if off = 0 ∧ xs.length = 0 then some (h, .arr id gn off len) else some (h.set id (.arr (gn + xs.length + (if off = 0 then 0 else 1)) sz sh (es.drop off ++ xs)), .arr id (gn + xs.length + (if off = 0 then 0 else 1)) 0 (len + xs.length)))
            else if off + len + xs.length ≤ es.length ∧ sh = false then some (h.set id (.arr gn sz sh (es.take (off + len) ++ xs ++ es.drop (off + len + xs.length))), .arr id gn off (len + xs.length))
            else none
          else none
        | _, _, _, _ => none
/-- append: what it makes (to nil), or writes. -/
def appO (x : X) (rd : Hp) (free : Bool) (g : Option Bool) (d : Option Nat) (s : St) (e e' : Option TI) (v y : AV) (K : Bool) : Option St := match v with
  | .p .nils => mkOO x g d s (appA e e' (pic rd y)) K
  | .arr id gn off len => wrO x.nt d free g s (appW s.hp id gn off len e e' (pic s.hp y)) K
  | _ => badO x.nt d g s K
@[simp ↓] theorem evU_append (a b : Operand) (t t' : Nat) : evU x rd free g d (.call ⟨.builtin .append, #[a, b], #[t, t']⟩) s = appO x rd free g d s (elemOf x.T t) (elemOf x.T t') (uv (evo s.tm a)) (uv (evo s.tm b)) (uk true (evo s.tm a) && uk true (evo s.tm b)) := by
  have hK : g.getD true = true → opK (g.getD true) s.tm (.call ⟨.builtin .append, #[a, b], #[t, t']⟩) = (uk true (evo s.tm a) && uk true (evo s.tm b)) := fun h => by simp [opK, eks, h]
  unfold appO
  split
  · rename_i h
    by_cases hn : appA (elemOf x.T t) (elemOf x.T t') (pic rd (uv (evo s.tm b))) = none
    · rw [evU_AO _ _ _ _ _ _ (a := appA (elemOf x.T t) (elemOf x.T t') (pic rd (uv (evo s.tm b)))) (by simp only [opA, appA, h]; cases elemOf x.T t <;> cases elemOf x.T t' <;> rfl) rfl rfl (by simp only [opW, evs, List.map_cons, List.map_nil, h])]
      exact mkOO_K hK
    · rw [evU_AO _ _ _ _ _ _ (a := appA (elemOf x.T t) (elemOf x.T t') (pic rd (uv (evo s.tm b)))) (by simp only [opA, appA, h]; cases elemOf x.T t <;> cases elemOf x.T t' <;> rfl) rfl rfl (by simp only [opW, evs, List.map_cons, List.map_nil, h])]
      exact mkOO_K hK
  · rename_i id gn off len h
    rw [evU_W (r := appW s.hp id gn off len (elemOf x.T t) (elemOf x.T t') (pic s.hp (uv (evo s.tm b)))) (by simp only [opA, h]) rfl rfl (by simp only [opW, appW, evs, List.map_cons, List.map_nil, h]; cases s.hp.at id <;> cases elemOf x.T t <;> cases elemOf x.T t' <;> cases pic s.hp (uv (evo s.tm b)) <;> rfl)]
    exact wrO_K hK
  · rename_i h1 h2
    rw [evU_bad]
    · exact badO_K hK
    · simp only [opA]
      split
      · rename_i h _ _; exact absurd h h1
      · rfl
    · rfl
    · rfl
    · simp only [opW, evs, List.map_cons, List.map_nil]
      split
      · rename_i h _; simp at h; exact absurd h.1 (h2 _ _ _ _)
      · rfl
end
end Go.En
namespace Go.En
/-! Calls; and what the steps come to at values whose make is known. -/

def callI (free : Bool) (g : Option Bool) (d : Option Nat) (s : St) (r : Option (AV × Hp)) : Option St :=
  if g.getD true = true then (if free = true then none else obind r fun r => some ⟨putO s.tm d (mkg g r.1), r.2⟩) else some ⟨putO s.tm d (.gd false .undef), s.hp⟩
def callR (x : X) (free : Bool) (g : Option Bool) (d : Option Nat) (s : St) (f : Nat) (ids : List Nat) (r : Option (AV × Hp)) : Option St :=
  ocase r (fun r =>
        if r.2.length = 0 then
          if scalar r.1 = true ∨ x.T.fresh f = true then some ⟨putO s.tm d (mkg g r.1), s.hp⟩
          else if g.getD true = true then
            if free = true ∧ ids ≠ [] then none
            else some ⟨putO s.tm d (mkg g r.1), share s.hp ids⟩
          else some ⟨putO s.tm d (.gd false .undef), s.hp⟩
        else if g.getD true = true then
          if free = false ∧ r.2.all isArrO = true then some ⟨putO s.tm d (mkg g (shiftV s.hp.length r.1)), share s.hp ids ++ r.2⟩ else none
        else some ⟨putO s.tm d (.gd false .undef), s.hp⟩)
      (fun _ => if g.getD true = true then none else some ⟨putO s.tm d (.gd false .undef), s.hp⟩)
def evC (x : X) (free : Bool) (g : Option Bool) (d : Option Nat) (s : St) (f : Nat) (bs : List AV) (ids : List Nat) : Option St :=
  if (toPs (bs.flatMap AV.cells)).isSome = true then callR x free g d s f ids (x.call f bs []) else callI free g d s (x.call f bs (share s.hp ids))
def callK (x : X) (rd : Hp) (free : Bool) (g : Option Bool) (d : Option Nat) (s : St) (f : Nat) (as : List AV) (K : Bool) : Option St :=
  if dstOk x.nt d = true ∧ okG g K = true then evC x free g d s f (bsOf (x.T.muts f) rd as) (idsOf (x.T.muts f) as) else none
def yldK (x : X) (free : Bool) (g : Option Bool) (d : Option Nat) (s : St) (id : Nat) (as : List AV) (K : Bool) : Option St :=
  if dstOk x.nt d = true ∧ okG g K = true then evYield x free g d s id as else none
def callO (x : X) (rd : Hp) (free : Bool) (g : Option Bool) (d : Option Nat) (s : St) (v : AV) (as : List AV) (K : Bool) : Option St := match v with
  | .p (.fn f cs) => callK x rd free g d s f (as ++ cs.map .p) K
  | .fn f cs => callK x rd free g d s f (as ++ cs) K
  | .yl id => yldK x free g d s id as K
  | _ => none
theorem evCall_eq (x : X) (rd : Hp) (free : Bool) (g : Option Bool) (d : Option Nat) (s : St) (f : Nat) (as : List AV) :
    evCall x rd free g d s f as = evC x free g d s f (bsOf (x.T.muts f) rd as) (idsOf (x.T.muts f) as) := rfl
theorem evU_call (x : X) (rd : Hp) (free : Bool) (g : Option Bool) (d : Option Nat) (s : St) (f : Operand) (args : Array Operand) (ts : Array Nat) :
    evU x rd free g d (.call ⟨.value f, args, ts⟩) s = callO x rd free g d s (uv (evo s.tm f)) (evs s.tm args.toList) (uk true (evo s.tm f) && eks true s.tm args.toList) := by
  have hA : opA x.T (ownD x.T x.f d) rd s.tm (.call ⟨.value f, args, ts⟩) = none := rfl
  have hV : opV x.T rd s.tm (.call ⟨.value f, args, ts⟩) = none := rfl
  have hC : calleeFn (.call ⟨.value f, args, ts⟩) = some (f, args.toList) := rfl
  have hK : okG g (opK (g.getD true) s.tm (.call ⟨.value f, args, ts⟩)) = okG g (uk true (evo s.tm f) && eks true s.tm args.toList) :=
    okG_uk' _ _ _ fun h => by simp [opK, eks, h]
  have hK2 : (!g.getD true || opK (g.getD true) s.tm (.call ⟨.value f, args, ts⟩)) = okG g (uk true (evo s.tm f) && eks true s.tm args.toList) := by
    rw [← hK]; cases g <;> simp [okG]
  simp only [evU, evOp, hA, hV, hC, ocase_none, ocase_some, hK2]
  unfold callO
  cases hd : dstOk x.nt d
  · simp only [chk_false, obind_none]
    split <;> simp [callK, yldK, hd]
  · cases hk : okG g (uk true (evo s.tm f) && eks true s.tm args.toList)
    · simp only [chk_true, chk_false, obind_some, obind_none]
      split <;> simp [callK, yldK, hd, hk]
    · simp only [chk_true, obind_some]
      split
      · rename_i h; simp [yieldOf, calleeOf, h, ocase_none, obind_some, callK, hd, hk, evCall_eq]
      · rename_i h; simp [yieldOf, calleeOf, h, ocase_none, obind_some, callK, hd, hk, evCall_eq]
      · rename_i h; simp [yieldOf, h, ocase_some, yldK, hd, hk]
      · rename_i h1 h2 h3
        have e1 : yieldOf s.tm f = none := by unfold yieldOf; split <;> first | (rename_i h; exact absurd h (h3 _)) | rfl
        have e2 : calleeOf s.tm f = none := by unfold calleeOf; split <;> first | (rename_i h; exact absurd h (h1 _ _)) | (rename_i h; exact absurd h (h2 _ _)) | rfl
        rw [e1, e2]; rfl
attribute [simp ↓] evU_call

section
variable (x : X) (rd : Hp) (free : Bool) (d : Option Nat) (s : St)
@[simp] theorem callO_pfn (g : Option Bool) (f : Nat) (cs : List PV) (as : List AV) (K : Bool) : callO x rd free g d s (.p (.fn f cs)) as K = callK x rd free g d s f (as ++ cs.map .p) K := rfl
@[simp] theorem callO_fn (g : Option Bool) (f : Nat) (cs : List AV) (as : List AV) (K : Bool) : callO x rd free g d s (.fn f cs) as K = callK x rd free g d s f (as ++ cs) K := rfl
@[simp] theorem callO_yl (g : Option Bool) (id : Nat) (as : List AV) (K : Bool) : callO x rd free g d s (.yl id) as K = yldK x free g d s id as K := rfl
@[simp] theorem callK_eq (g : Option Bool) (f : Nat) (as : List AV) (K : Bool) : callK x rd free g d s f as K = if dstOk x.nt d = true ∧ okG g K = true then evC x free g d s f (bsOf (x.T.muts f) rd as) (idsOf (x.T.muts f) as) else none := rfl
@[simp] theorem evC_eq (g : Option Bool) (f : Nat) (bs : List AV) (ids : List Nat) : evC x free g d s f bs ids = if (toPs (bs.flatMap AV.cells)).isSome = true then callR x free g d s f ids (x.call f bs []) else callI free g d s (x.call f bs (share s.hp ids)) := rfl
@[simp] theorem callR_pure (f : Nat) (ids : List Nat) (v : AV) : callR x free none d s f ids (some (v, [])) =
    if scalar v = true ∨ x.T.fresh f = true then some ⟨putO s.tm d v, s.hp⟩ else if free = true ∧ ids ≠ [] then none else some ⟨putO s.tm d v, share s.hp ids⟩ := rfl
@[simp] theorem callR_pure_on (f : Nat) (ids : List Nat) (v : AV) : callR x free (some true) d s f ids (some (v, [])) =
    if scalar v = true ∨ x.T.fresh f = true then some ⟨putO s.tm d (.gd true v), s.hp⟩ else if free = true ∧ ids ≠ [] then none else some ⟨putO s.tm d (.gd true v), share s.hp ids⟩ := rfl
@[simp] theorem callR_pure_g (g : Bool) (f : Nat) (ids : List Nat) (v : AV) (h : scalar v = true ∨ x.T.fresh f = true) : callR x free (some g) d s f ids (some (v, [])) = some ⟨putO s.tm d (.gd g v), s.hp⟩ := by
  simp [callR, ocase_some, h, mkg]
@[simp] theorem callR_rows (f : Nat) (ids : List Nat) (v : AV) (o : Obj) (os : List Obj) : callR x free none d s f ids (some (v, o :: os)) =
    if free = false ∧ (o :: os).all isArrO = true then some ⟨putO s.tm d (shiftV s.hp.length v), share s.hp ids ++ o :: os⟩ else none := by
  simp [callR, ocase_some, mkg]
/-- What a call that is not carried out leaves behind. -/
def offV (x : X) (f : Nat) (bs : List AV) : AV :=
  if (toPs (bs.flatMap AV.cells)).isSome = true then match x.call f bs [] with
    | some (v, []) => if scalar v = true ∨ x.T.fresh f = true then v else .undef
    | _ => .undef
  else .undef
@[simp ↓] theorem evC_off (f : Nat) (bs : List AV) (ids : List Nat) : evC x free (some false) d s f bs ids = some ⟨putO s.tm d (.gd false (offV x f bs)), s.hp⟩ := by
  unfold evC offV
  split
  · match x.call f bs [] with
    | none => rfl
    | some (v, []) =>
      by_cases h : scalar v = true ∨ x.T.fresh f = true
      · simp [callR, ocase_some, mkg, h]
      · simp [callR, ocase_some, mkg, h]
    | some (v, o :: os) => simp [callR, ocase_some]
  · rfl
@[simp] theorem callI_some (v : AV) (h : Hp) : callI false none d s (some (v, h)) = some ⟨putO s.tm d v, h⟩ := rfl
@[simp] theorem yldK_eq (id : Nat) (as : List AV) (K : Bool) : yldK x false none d s id as K = if dstOk x.nt d = true ∧ K = true then callI false none d s (obind (x.yield id as s.hp) fun r => some (.p (.bool r.1), r.2)) else none := by
  unfold yldK
  by_cases h : dstOk x.nt d = true ∧ K = true
  · rw [if_pos (show dstOk x.nt d = true ∧ okG none K = true from h), if_pos h]; simp only [evYield, callI]; cases x.yield id as s.hp <;> rfl
  · rw [if_neg (show ¬(dstOk x.nt d = true ∧ okG none K = true) from h), if_neg h]
end

def rngR (s : St) (n : Nat) (r : Option (AV × Hp)) : Option (Ex × St) := obind r fun r => rangek s (r.2.at n) (r.2.set n .dead)
@[simp] theorem rngR_some (s : St) (n : Nat) (v : AV) (h : Hp) : rngR s n (some (v, h)) = rangek s (h.at n) (h.set n .dead) := rfl
def rngC (x : X) (id : Nat) (s : St) (K : Bool) (v : AV) : Option (Ex × St) := match v with
  | .p (.fn f cs) => if x.rnd = false ∧ K = true then rngR s s.hp.length (x.call f (bsOf (x.T.muts f) s.hp (.yl s.hp.length :: cs.map .p)) (share s.hp (idsOf (x.T.muts f) (cs.map .p)) ++ [.loop .ready x.f id s.tm])) else none
  | .fn f cs => if x.rnd = false ∧ K = true then rngR s s.hp.length (x.call f (bsOf (x.T.muts f) s.hp (.yl s.hp.length :: cs)) (share s.hp (idsOf (x.T.muts f) cs) ++ [.loop .ready x.f id s.tm])) else none
  | _ => none
@[simp] theorem rngC_fn (x : X) (id : Nat) (s : St) (K : Bool) (f : Nat) (cs : List AV) : rngC x id s K (.fn f cs) = if x.rnd = false ∧ K = true then rngR s s.hp.length (x.call f (bsOf (x.T.muts f) s.hp (.yl s.hp.length :: cs)) (share s.hp (idsOf (x.T.muts f) cs) ++ [.loop .ready x.f id s.tm])) else none := rfl
@[simp] theorem evc_range (x : X) (g : Operand) (ps : Array Nat) (a b : Code) (id : Nat) (s : St) : evc x (.rangeFunc g ps a b) id s = rngC x id s (uk true (evo s.tm g)) (uv (evo s.tm g)) := by
  simp only [evc, rngC, calleeOf]
  by_cases h : x.rnd = false ∧ uk true (evo s.tm g) = true
  · simp only [if_pos h]
    cases uv (evo s.tm g) with
    | p y => cases y <;> rfl
    | _ => rfl
  · simp only [if_neg h]
    cases uv (evo s.tm g) with
    | p y => cases y <;> rfl
    | _ => rfl
@[simp] theorem rangek_ready (s : St) (f lid : Nat) (tm : Tm) (h : Hp) : rangek s (.loop .ready f lid tm) h = some (.nor, ⟨s.tm, h⟩) := rfl
@[simp] theorem rangek_done (s : St) (e : Ex) (f lid : Nat) (tm : Tm) (h : Hp) : rangek s (.loop (.done e) f lid tm) h = some (e, ⟨s.tm, h⟩) := rfl

section
variable (tm : Tm) (h : Hp)
@[simp] theorem evo_tmp (i : Nat) : evo tm (.tmp i) = look tm i := rfl
@[simp] theorem evo_func (i : Nat) : evo tm (.func i) = .p (.fn i []) := rfl
@[simp] theorem evo_int (k : IntKind) (n : Int) : evo tm (.const (.int k n)) = .p (.int k n) := rfl
@[simp] theorem evo_bool (b : Bool) : evo tm (.const (.bool b)) = .p (.bool b) := rfl
@[simp] theorem evo_str (b : ByteArray) : evo tm (.const (.string b)) = .p (.str b) := rfl
@[simp] theorem evo_nils : evo tm (.const (.slice none 0 0)) = .p .nils := rfl
@[simp] theorem evo_nilp : evo tm (.const (.pointer none)) = .p .nilp := rfl
@[simp] theorem evo_nilf : evo tm (.const .nilFunc) = .p .nilf := rfl
@[simp] theorem evo_nili : evo tm (.const .nilIface) = .p .nili := rfl
@[simp] theorem evo_nilm : evo tm (.const (.map none)) = .p .nilm := rfl
@[simp] theorem evo_agg (cs : Array Value) : evo tm (.const (.agg cs)) = ((ofVals cs.toList).map AV.agg).getD .undef := rfl
@[simp] theorem ofVals_nil : ofVals [] = some [] := rfl
@[simp] theorem ofVals_cons (v : Value) (r : List Value) : ofVals (v :: r) = (ofVal1 v).bind fun x => (ofVals r).map (x :: ·) := rfl
@[simp] theorem ofVal1_int (k : IntKind) (n : Int) : ofVal1 (.int k n) = some (.p (.int k n)) := rfl
@[simp] theorem ofVal1_bool (b : Bool) : ofVal1 (.bool b) = some (.p (.bool b)) := rfl
@[simp] theorem ofVal1_str (b : ByteArray) : ofVal1 (.string b) = some (.p (.str b)) := rfl
@[simp] theorem ofVal1_nils : ofVal1 (.slice none 0 0) = some (.p .nils) := rfl
@[simp] theorem ofVal1_nilp : ofVal1 (.pointer none) = some (.p .nilp) := rfl
@[simp] theorem ofVal1_nilf : ofVal1 .nilFunc = some (.p .nilf) := rfl
@[simp] theorem ofVal1_nili : ofVal1 .nilIface = some (.p .nili) := rfl
@[simp] theorem ofVal1_nilm : ofVal1 (.map none) = some (.p .nilm) := rfl
@[simp] theorem isNilS_yes : isNilS (.const (.slice none 0 0)) = true := rfl
@[simp] theorem isNilS_tmp (i : Nat) : isNilS (.tmp i) = false := rfl
@[simp] theorem isNilS_int (k : IntKind) (n : Int) : isNilS (.const (.int k n)) = false := rfl
@[simp] theorem isNilS_bool (b : Bool) : isNilS (.const (.bool b)) = false := rfl
@[simp] theorem isNilS_agg (b : Array Value) : isNilS (.const (.agg b)) = false := rfl
@[simp] theorem isNilS_str (b : ByteArray) : isNilS (.const (.string b)) = false := rfl
@[simp] theorem evs_nil : evs tm [] = [] := rfl
@[simp] theorem evs_cons (a : Operand) (r : List Operand) : evs tm (a :: r) = uv (evo tm a) :: evs tm r := rfl
@[simp] theorem eks_nil (b : Bool) : eks b tm [] = true := rfl
@[simp] theorem eks_cons (b : Bool) (a : Operand) (r : List Operand) : eks b tm (a :: r) = (uk b (evo tm a) && eks b tm r) := rfl
end
@[simp] theorem uv_p (y : PV) : uv (.p y) = .p y := rfl
@[simp] theorem uv_agg (y : List AV) : uv (.agg y) = .agg y := rfl
@[simp] theorem uv_ref (a b : Nat) : uv (.ref a b) = .ref a b := rfl
@[simp] theorem uv_arr (a b c d : Nat) : uv (.arr a b c d) = .arr a b c d := rfl
@[simp] theorem uv_elt (a b c d : Nat) : uv (.elt a b c d) = .elt a b c d := rfl
@[simp] theorem uv_fn (a : Nat) (l : List AV) : uv (.fn a l) = .fn a l := rfl
@[simp] theorem uv_yl (a : Nat) : uv (.yl a) = .yl a := rfl
@[simp] theorem uv_map (a : Nat) : uv (.map a) = .map a := rfl
@[simp] theorem uv_tup (l : List AV) : uv (.tup l) = .tup l := rfl
@[simp] theorem uv_gd (b : Bool) (v : AV) : uv (.gd b v) = v := rfl
@[simp] theorem uv_undef : uv .undef = .undef := rfl
@[simp] theorem uk_p (g : Bool) (y : PV) : uk g (.p y) = true := rfl
@[simp] theorem uk_agg (g : Bool) (y : List AV) : uk g (.agg y) = true := rfl
@[simp] theorem uk_ref (g : Bool) (a b : Nat) : uk g (.ref a b) = true := rfl
@[simp] theorem uk_arr (g : Bool) (a b c d : Nat) : uk g (.arr a b c d) = true := rfl
@[simp] theorem uk_elt (g : Bool) (a b c d : Nat) : uk g (.elt a b c d) = true := rfl
@[simp] theorem uk_fn (g : Bool) (a : Nat) (l : List AV) : uk g (.fn a l) = true := rfl
@[simp] theorem uk_yl (g : Bool) (a : Nat) : uk g (.yl a) = true := rfl
@[simp] theorem uk_map (g : Bool) (a : Nat) : uk g (.map a) = true := rfl
@[simp] theorem uk_tup (g : Bool) (l : List AV) : uk g (.tup l) = true := rfl
@[simp] theorem uk_undef (g : Bool) : uk g .undef = true := rfl
@[simp] theorem uk_gd (g b : Bool) (v : AV) : uk g (.gd b v) = (!g || b) := rfl
attribute [simp] look put numbered toPs
@[simp] theorem putO_some (t : Tm) (i : Nat) (v : AV) : putO t (some i) v = put t i v := rfl
@[simp] theorem putO_none (t : Tm) (v : AV) : putO t none v = t := rfl
@[simp] theorem mkg_none (v : AV) : mkg none v = v := rfl
@[simp] theorem mkg_some (b : Bool) (v : AV) : mkg (some b) v = .gd b v := rfl
@[simp] theorem dstOk_none (n : Nat) : dstOk n none = true := rfl
@[simp] theorem dstOk_some (n d : Nat) : dstOk n (some d) = decide (d < n) := rfl
@[simp] theorem okG_none (b : Bool) : okG none b = b := rfl
@[simp] theorem okG_some (g b : Bool) : okG (some g) b = (!g || b) := rfl
@[simp] theorem ownD_none (T : Tab) (f : Nat) : ownD T f none = 0 := rfl
@[simp] theorem ownD_some (T : Tab) (f d : Nat) : ownD T f (some d) = T.own f d := rfl

section
variable (nt : Nat) (d : Option Nat) (s : St) (K : Bool)
@[simp] theorem retO_none (r : O) : retO nt d none s r K = if dstOk nt d = true ∧ (r.ok = true ∧ K = true) then some ⟨putO s.tm d r.v, s.hp⟩ else none := by
  simp only [retO]
  cases dstOk nt d <;> cases h : r.ok <;> cases K <;> simp [okG, chk, obind_some, obind_none, mkg]
@[simp] theorem retO_some (g : Bool) (r : O) : retO nt d (some g) s r K = if dstOk nt d = true ∧ (g = true → r.ok = true ∧ K = true) then some ⟨putO s.tm d (.gd g r.v), s.hp⟩ else none := by
  simp only [retO]
  cases dstOk nt d <;> cases h : r.ok <;> cases K <;> cases g <;> simp [okG, chk, obind_some, obind_none, mkg]
@[simp] theorem mkO_none (a : A) : mkO nt d none s a K = if dstOk nt d = true ∧ (a.ok = true ∧ K = true) then some ⟨putO s.tm d (a.mk s.hp.length), s.hp ++ a.obj s.hp.length :: a.aux⟩ else none := by
  simp only [mkO]
  cases dstOk nt d <;> cases h : a.ok <;> cases K <;> simp [okG, chk, obind_some, obind_none, mkg]
@[simp] theorem mkO_some (g : Bool) (a : A) : mkO nt d (some g) s a K = if dstOk nt d = true ∧ (g = true → a.ok = true ∧ K = true) then some ⟨putO s.tm d (.gd g (a.mk s.hp.length)), s.hp ++ a.obj s.hp.length :: a.aux⟩ else none := by
  simp only [mkO]
  cases dstOk nt d <;> cases h : a.ok <;> cases K <;> cases g <;> simp [okG, chk, obind_some, obind_none, mkg]
@[simp] theorem anyO_some (g : Option Bool) (r : O) : anyO nt d g s (some r) K = retO nt d g s r K := rfl
def wrR (d : Option Nat) (tm : Tm) (r : Option (Hp × AV)) : Option St := match r with
  | some (h, v) => some ⟨putO tm d v, h⟩
  | none => none
@[simp] theorem wrR_some (tm : Tm) (h : Hp) (v : AV) : wrR d tm (some (h, v)) = some ⟨putO tm d v, h⟩ := rfl
@[simp] theorem wrO_none (r : Option (Hp × AV)) : wrO nt d false none s r K = if dstOk nt d = true ∧ K = true then wrR d s.tm r else none := by
  simp only [wrO]
  cases dstOk nt d <;> cases K <;> cases r <;> simp [okG, chk, obind_some, obind_none, mkg, wrR]
@[simp] theorem mkOO_some (x : X) (g : Option Bool) (a : A) : mkOO x g d s (some a) K = mkO x.nt d g s a K := rfl
@[simp] theorem asgO_zero (x : X) (g : Option Bool) (b : Bool) (v : AV) : asgO x g d s 0 b v = retO x.nt d g s ⟨uv v, true⟩ (uk true v) := by simp [asgO]
@[simp] theorem asgO_false (x : X) (g : Option Bool) (n : Nat) (v : AV) : asgO x g d s n false v = retO x.nt d g s ⟨uv v, true⟩ (uk true v) := by simp [asgO]
@[simp] theorem asgO_true (x : X) (g : Option Bool) (n : Nat) (v : AV) : asgO x g d s (n + 1) true v = mkO x.nt d g s ⟨fun id => .arr id 0 0 0, fun _ => .arr 0 (n + 1) false [], [], true⟩ true := by simp [asgO]
@[simp] theorem bldO_zero (x : X) (g : Option Bool) (r : O) : bldO x g d s 0 r K = retO x.nt d g s r K := by simp [bldO]
@[simp] theorem bldO_succ (x : X) (g : Option Bool) (n : Nat) (cs : List AV) (ok : Bool) : bldO x g d s (n + 1) ⟨.agg cs, ok⟩ K = mkO x.nt d g s ⟨fun id => .agg ((ownNil (.arr id 0 0 0) cs).getD cs), fun _ => .arr 0 (n + 1) false [], [], ok⟩ K := by simp [bldO]
end
@[simp] theorem boxA_zero (cs : List AV) (ok : Bool) : boxA 0 cs ok = ⟨fun id => .ref id 0, fun _ => .box cs, [], ok⟩ := rfl
@[simp] theorem boxA_succ (n : Nat) (cs : List AV) (ok : Bool) : boxA (n + 1) cs ok = ⟨fun id => .ref id 0, fun id => .box ((ownNil (.arr (id + 1) 0 0 0) cs).getD cs), [.arr 0 (n + 1) false []], ok⟩ := rfl
@[simp] theorem ownNil_nils (v : AV) (r : List AV) : ownNil v (.p .nils :: r) = some (v :: r) := rfl
@[simp] theorem ownNil_nilm (v : AV) (r : List AV) : ownNil v (.p .nilm :: r) = (ownNil v r).map (.p .nilm :: ·) := rfl
@[simp] theorem ownNil_map (v : AV) (m : Nat) (r : List AV) : ownNil v (.map m :: r) = (ownNil v r).map (.map m :: ·) := rfl
@[simp] theorem ownNil_int (v : AV) (k : IntKind) (n : Int) (r : List AV) : ownNil v (.p (.int k n) :: r) = (ownNil v r).map (.p (.int k n) :: ·) := rfl
@[simp] theorem boxI_some (own : Nat) (i : TI) (v : AV) : boxI own (some i) v = some (boxA own v.cells (decide (v.cells.length = i.size ∧ v.cells.all AV.one = true))) := rfl

-- ---------------------------------------------------------------- values
@[simp] theorem O_of_some (v : AV) : O.of (some v) = ⟨v, true⟩ := rfl
@[simp] theorem AVcells_p (y : PV) : AV.cells (.p y) = [.p y] := rfl
@[simp] theorem AVcells_agg (y : List AV) : AV.cells (.agg y) = y := rfl
@[simp] theorem AVcells_ref (a b : Nat) : AV.cells (.ref a b) = [.ref a b] := rfl
@[simp] theorem AVcells_arr (a b c d : Nat) : AV.cells (.arr a b c d) = [.arr a b c d] := rfl
@[simp] theorem AVcells_fn (a : Nat) (l : List AV) : AV.cells (.fn a l) = [.fn a l] := rfl
@[simp] theorem AVcells_yl (a : Nat) : AV.cells (.yl a) = [.yl a] := rfl
@[simp] theorem AVcells_map (a : Nat) : AV.cells (.map a) = [.map a] := rfl
@[simp] theorem PVcells_agg (y : List PV) : PV.cells (.agg y) = y := rfl
@[simp] theorem PVcells_int (k : IntKind) (n : Int) : PV.cells (.int k n) = [.int k n] := rfl
@[simp] theorem PVcells_bool (b : Bool) : PV.cells (.bool b) = [.bool b] := rfl
@[simp] theorem PVcells_str (b : ByteArray) : PV.cells (.str b) = [.str b] := rfl
@[simp] theorem PVcells_sl (b : List PV) : PV.cells (.sl b) = [.sl b] := rfl
@[simp] theorem PVcells_nils : PV.cells .nils = [.nils] := rfl
@[simp] theorem one_int (k : IntKind) (n : Int) : AV.one (.p (.int k n)) = true := rfl
@[simp] theorem one_bool (b : Bool) : AV.one (.p (.bool b)) = true := rfl
@[simp] theorem one_str (b : ByteArray) : AV.one (.p (.str b)) = true := rfl
@[simp] theorem one_sl (b : List PV) : AV.one (.p (.sl b)) = true := rfl
@[simp] theorem one_nils : AV.one (.p .nils) = true := rfl
@[simp] theorem one_ptr (b : List PV) (o : Nat) : AV.one (.p (.ptr b o)) = true := rfl
@[simp] theorem one_pfn (b : List PV) (o : Nat) : AV.one (.p (.fn o b)) = true := rfl
@[simp] theorem one_nilp : AV.one (.p .nilp) = true := rfl
@[simp] theorem one_nilf : AV.one (.p .nilf) = true := rfl
@[simp] theorem one_nilm : AV.one (.p .nilm) = true := rfl
@[simp] theorem one_ref (a b : Nat) : AV.one (.ref a b) = true := rfl
@[simp] theorem one_arr (a b c d : Nat) : AV.one (.arr a b c d) = true := rfl
@[simp] theorem one_fn (a : Nat) (l : List AV) : AV.one (.fn a l) = true := rfl
@[simp] theorem one_yl (a : Nat) : AV.one (.yl a) = true := rfl
@[simp] theorem one_map (a : Nat) : AV.one (.map a) = true := rfl
@[simp] theorem at_zero (o : Obj) (r : Hp) : Hp.at (o :: r) 0 = o := rfl
@[simp] theorem at_succ (o : Obj) (r : Hp) (n : Nat) : Hp.at (o :: r) (n + 1) = Hp.at r n := rfl
@[simp] theorem pickW_bool (b : Bool) (x y : AV) : pickW (.p (.bool b)) x y = some (pickV b x y) := rfl
@[simp] theorem pickW_gd (c b : Bool) (x y : AV) : pickW (.gd c (.p (.bool b))) x y = some (pickV b x y) := rfl
def pickC (b kx ky : Bool) : AV → AV → O
  | .p (.bool p), .p (.bool q) => ⟨.p (.bool (if b then p else q)), (!b || kx) && (b || ky)⟩
  | x', y' => if b = true then ⟨x', kx⟩ else ⟨y', ky⟩
@[simp] theorem pickV_eq (b : Bool) (x y : AV) : pickV b x y = pickC b (uk true x) (uk true y) (uv x) (uv y) := by
  simp only [pickV, pickC]; rfl
@[simp] theorem pickC_true (kx ky : Bool) (x y : AV) : pickC true kx ky x y = ⟨x, kx⟩ := by
  unfold pickC; split <;> simp
@[simp] theorem pickC_false (kx ky : Bool) (x y : AV) : pickC false kx ky x y = ⟨y, ky⟩ := by
  unfold pickC; split <;> simp
/-- What short forms of conditions come to; a simplifier leaves them as they are. -/
def iteB (b p q : Bool) : Bool := if b then p else q
def andB (a b : Bool) : Bool := a && b
def orB (a b : Bool) : Bool := a || b
@[simp] theorem iteB_and (a b : Bool) : iteB a b false = andB a b := by cases a <;> rfl
@[simp] theorem iteB_or (a b : Bool) : iteB a true b = orB a b := by cases a <;> rfl
@[simp] theorem andB_true (b : Bool) : andB true b = b := by cases b <;> rfl
@[simp] theorem andB_false (b : Bool) : andB false b = false := by cases b <;> rfl
@[simp] theorem andB_true' (b : Bool) : andB b true = b := by cases b <;> rfl
@[simp] theorem andB_false' (b : Bool) : andB b false = false := by cases b <;> rfl
@[simp] theorem orB_true (b : Bool) : orB true b = true := by cases b <;> rfl
@[simp] theorem orB_false (b : Bool) : orB false b = b := by cases b <;> rfl
@[simp] theorem orB_true' (b : Bool) : orB b true = true := by cases b <;> rfl
@[simp] theorem orB_false' (b : Bool) : orB b false = b := by cases b <;> rfl
@[simp] theorem orB_not (a b : Bool) : orB (!a) (!b) = !andB a b := by cases a <;> cases b <;> rfl
@[simp] theorem andB_self (a : Bool) : andB a a = a := by cases a <;> rfl
@[simp] theorem orB_self (a : Bool) : orB a a = a := by cases a <;> rfl
@[simp] theorem iteB_true (p q : Bool) : iteB true p q = p := rfl
@[simp] theorem iteB_false (p q : Bool) : iteB false p q = q := rfl
@[simp] theorem pickC_bool (b kx ky p q : Bool) : pickC b kx ky (.p (.bool p)) (.p (.bool q)) = ⟨.p (.bool (iteB b p q)), (!b || kx) && (b || ky)⟩ := rfl
def loadC (i : Option TI) (c : Option (List AV × Nat)) : O := match i, c with
  | some i, some (cs, off) =>
    if isAggD i.desc then ⟨.agg ((cs.drop off).take i.size), decide (off + i.size ≤ cs.length)⟩
    else ⟨cs.getD off .undef, decide (off < cs.length)⟩
  | _, _ => .bad
@[simp] theorem loadV_eq (T : Tab) (h : Hp) (t : Nat) (a : AV) : loadV T h t a = loadC (T.info t) (cellsAt h a) := rfl
@[simp] theorem loadC_some (i : TI) (cs : List AV) (off : Nat) : loadC (some i) (some (cs, off)) = if isAggD i.desc = true then ⟨.agg ((cs.drop off).take i.size), decide (off + i.size ≤ cs.length)⟩ else ⟨cs.getD off .undef, decide (off < cs.length)⟩ := rfl
@[simp] theorem isAggD_int (k : IntKind) : isAggD (.int k) = false := rfl
@[simp] theorem isAggD_bool : isAggD .bool = false := rfl
@[simp] theorem isAggD_string : isAggD .string = false := rfl
@[simp] theorem isAggD_slice (e : Nat) : isAggD (.slice e) = false := rfl
@[simp] theorem isAggD_pointer (e : Nat) : isAggD (.pointer e) = false := rfl
@[simp] theorem isAggD_map (k e : Nat) : isAggD (.map k e) = false := rfl
@[simp] theorem isAggD_func (k e : Array Nat) (b : Bool) : isAggD (.func k e b) = false := rfl
@[simp] theorem isAggD_struct (e : Array Field) : isAggD (.struct e) = true := rfl
def boxAt (off : Nat) : Obj → Option (List AV × Nat)
  | .box cs => some (cs, off)
  | _ => none
def eltAt (g i off : Nat) : Obj → Option (List AV × Nat)
  | .arr g' _ _ es => if g = g' then (es[i]?).map fun x => (x.cells.map .p, off) else none
  | _ => none
@[simp] theorem cellsAt_ptr (h : Hp) (cs : List PV) (off : Nat) : cellsAt h (.p (.ptr cs off)) = some (cs.map .p, off) := rfl
@[simp] theorem cellsAt_ref (h : Hp) (id off : Nat) : cellsAt h (.ref id off) = boxAt off (h.at id) := by simp only [cellsAt, boxAt]; rfl
@[simp] theorem cellsAt_elt (h : Hp) (id g i off : Nat) : cellsAt h (.elt id g i off) = eltAt g i off (h.at id) := by simp only [cellsAt, eltAt]; rfl
@[simp] theorem boxAt_box (off : Nat) (cs : List AV) : boxAt off (.box cs) = some (cs, off) := rfl
@[simp] theorem eltAt_arr (g i off g' sz : Nat) (sh : Bool) (es : List PV) : eltAt g i off (.arr g' sz sh es) = if g = g' then (es[i]?).map fun x => (x.cells.map .p, off) else none := rfl
@[simp] theorem shiftA_ptr (n : Nat) (cs : List PV) (off : Nat) : shiftA n (.p (.ptr cs off)) = some (.p (.ptr cs (off + n))) := rfl
@[simp] theorem shiftA_ref (n id off : Nat) : shiftA n (.ref id off) = some (.ref id (off + n)) := rfl
@[simp] theorem shiftA_elt (n id g i off : Nat) : shiftA n (.elt id g i off) = some (.elt id g i (off + n)) := rfl
def fieldC (f : Option (Nat × TI)) (x : AV) : O := match f with
  | some (off, i) => if i.size = 0 then .bad else .of (shiftA off x)
  | none => .bad
@[simp] theorem fieldV_eq (T : Tab) (t : Nat) (x : AV) (f : Nat) : fieldV T t x f = fieldC (fieldOf T t f) x := rfl
@[simp] theorem fieldC_some (off : Nat) (i : TI) (x : AV) : fieldC (some (off, i)) x = if i.size = 0 then .bad else .of (shiftA off x) := rfl
def partC (f : Option (Nat × TI)) (x : AV) : O := match f, x with
  | some (off, i), .agg cs =>
    if isAggD i.desc then ⟨.agg ((cs.drop off).take i.size), decide (off + i.size ≤ cs.length)⟩
    else ⟨cs.getD off .undef, decide (off < cs.length)⟩
  | _, _ => .bad
@[simp] theorem partV_eq (T : Tab) (t : Nat) (x : AV) (f : Nat) : partV T t x f = partC (fieldOf T t f) x := rfl
@[simp] theorem partC_some (off : Nat) (i : TI) (cs : List AV) : partC (some (off, i)) (.agg cs) = if isAggD i.desc = true then ⟨.agg ((cs.drop off).take i.size), decide (off + i.size ≤ cs.length)⟩ else ⟨cs.getD off .undef, decide (off < cs.length)⟩ := rfl
def idxC (e : Option TI) (l : List PV) (n : Int) : O := match e with
  | some e => ⟨.p (.ptr (l.getD n.toNat .nils).cells 0), decide (0 ≤ n ∧ n < (l.length : Int)) && decide ((l.getD n.toNat .nils).cells.length = e.size)⟩
  | none => .bad
def idxE (e : Option TI) (id g off len : Nat) (n : Int) : Obj → O
  | .arr g' sz _ es => match e with
    | some e => ⟨.elt id g (off + n.toNat) 0, decide (0 ≤ n ∧ n < (len : Int)) && (decide (g = g' ∧ sz = e.size ∧ off + len ≤ es.length))⟩
    | none => .bad
  | _ => .bad
@[simp] theorem indexAddrV_sl (T : Tab) (h : Hp) (t : Nat) (l : List PV) (k : IntKind) (n : Int) : indexAddrV T h t (.p (.sl l)) (.p (.int k n)) = idxC (elemOf T t) l n := rfl
@[simp] theorem indexAddrV_arr (T : Tab) (h : Hp) (t id g off len : Nat) (k : IntKind) (n : Int) : indexAddrV T h t (.arr id g off len) (.p (.int k n)) = idxE (elemOf T t) id g off len n (h.at id) := by
  simp only [indexAddrV, idxE]
  cases elemOf T t <;> cases h.at id <;> rfl
@[simp] theorem idxC_some (e : TI) (l : List PV) (n : Int) : idxC (some e) l n = ⟨.p (.ptr (l.getD n.toNat .nils).cells 0), decide (0 ≤ n ∧ n < (l.length : Int)) && decide ((l.getD n.toNat .nils).cells.length = e.size)⟩ := rfl
@[simp] theorem idxE_some (e : TI) (id g off len g' sz : Nat) (sh : Bool) (es : List PV) (n : Int) : idxE (some e) id g off len n (.arr g' sz sh es) = ⟨.elt id g (off + n.toNat) 0, decide (0 ≤ n ∧ n < (len : Int)) && (decide (g = g' ∧ sz = e.size ∧ off + len ≤ es.length))⟩ := rfl
@[simp] theorem nilC_ptr (cs : List PV) (o : Nat) : nilC (.p (.ptr cs o)) = some ⟨.p (.ptr cs o), true⟩ := rfl
@[simp] theorem nilC_ref (i o : Nat) : nilC (.ref i o) = some ⟨.ref i o, true⟩ := rfl
@[simp] theorem nilC_elt (i g n o : Nat) : nilC (.elt i g n o) = some ⟨.elt i g n o, true⟩ := rfl
@[simp] theorem lenC_sl (e : Nat) (l : List PV) : lenC (some (.slice e)) (.p (.sl l)) = some ⟨.p (.int .i64 l.length), true⟩ := rfl
@[simp] theorem lenC_nils (e : Nat) : lenC (some (.slice e)) (.p .nils) = some ⟨.p (.int .i64 0), true⟩ := rfl
@[simp] theorem lenC_arr (e a b c k : Nat) : lenC (some (.slice e)) (.arr a b c k) = some ⟨.p (.int .i64 k), true⟩ := rfl
@[simp] theorem lenC_str (b : ByteArray) : lenC (some .string) (.p (.str b)) = some ⟨.p (.int .i64 b.size), true⟩ := rfl
@[simp] theorem extC_tup (i : Nat) (vs : List AV) : extC i (.tup vs) = some (.of vs[i]?) := rfl

-- ---------------------------------------------------------------- numbers
section
variable (T : Tab) (t : Nat) (dd : TypeDesc) (k : IntKind) (a b : Int)
def binD (op : BinOp) (x y : AV) : Option TypeDesc → Option O
  | some d => some (binV d op x y)
  | none => none
@[simp] theorem binD_some (op : BinOp) (x y : AV) (dd : TypeDesc) : binD op x y (some dd) = some (binV dd op x y) := rfl
@[simp] theorem binU_p (op : BinOp) (x y : PV) : binU T op t (.p x) (.p y) = binD op (.p x) (.p y) (descOf T t) := by
  simp only [binU]; cases descOf T t <;> rfl
def binS (T : Tab) (op : BinOp) (a b : List AV) : Option TypeDesc → Option O
  | some (.struct fs) => match op with
    | .eql => some (.of ((eqFs T 0 fs.toList a b).map fun r => .p (.bool r)))
    | .neq => some (.of ((eqFs T 0 fs.toList a b).map fun r => .p (.bool !r)))
    | _ => none
  | _ => none
@[simp] theorem binU_agg (op : BinOp) (x y : List AV) : binU T op t (.agg x) (.agg y) = binS T op x y (descOf T t) := by
  simp only [binU, binS]
  cases descOf T t with
  | none => rfl
  | some d => cases d <;> cases op <;> rfl
@[simp] theorem binS_eql (x y : List AV) (fs : Array Field) : binS T .eql x y (some (.struct fs)) = some (.of ((eqFs T 0 fs.toList x y).map fun r => .p (.bool r))) := rfl
@[simp] theorem binS_neq (x y : List AV) (fs : Array Field) : binS T .neq x y (some (.struct fs)) = some (.of ((eqFs T 0 fs.toList x y).map fun r => .p (.bool !r))) := rfl
@[simp] theorem eqFs_nil (n : Nat) : eqFs T n [] [] [] = some true := rfl
@[simp] theorem eqFs_cons (n : Nat) (f : Field) (r : List Field) (x y : AV) (xs ys : List AV) : eqFs T n (f :: r) (x :: xs) (y :: ys) = if f.name ≠ "_" ∧ f.offset = n then (eqD (descOf T f.type) x y).bind fun b => (eqFs T (n + 1) r xs ys).map fun c => b && c else none := rfl
@[simp] theorem eqD_int : eqD (some (.int k)) (.p (.int k a)) (.p (.int k b)) = some (a == b) := by simp [eqD]
@[simp] theorem eqD_bool (a b : Bool) : eqD (some .bool) (.p (.bool a)) (.p (.bool b)) = some (a == b) := rfl
@[simp] theorem binV_add : binV dd .add (.p (.int k a)) (.p (.int k b)) = ⟨.p (.int k (k.wrap (a + b))), true⟩ := by simp [binV, intBin]
@[simp] theorem binV_sub : binV dd .sub (.p (.int k a)) (.p (.int k b)) = ⟨.p (.int k (k.wrap (a - b))), true⟩ := by simp [binV, intBin]
@[simp] theorem binV_mul : binV dd .mul (.p (.int k a)) (.p (.int k b)) = ⟨.p (.int k (k.wrap (a * b))), true⟩ := by simp [binV, intBin]
@[simp] theorem binV_quo : binV dd .quo (.p (.int k a)) (.p (.int k b)) = ⟨.p (.int k (k.wrap (a.tdiv b))), decide (b ≠ 0)⟩ := by simp [binV, intBin]
@[simp] theorem binV_rem : binV dd .rem (.p (.int k a)) (.p (.int k b)) = ⟨.p (.int k (a.tmod b)), decide (b ≠ 0)⟩ := by simp [binV, intBin]
@[simp] theorem binV_eql : binV dd .eql (.p (.int k a)) (.p (.int k b)) = ⟨.p (.bool (decide (a = b))), true⟩ := by simp [binV, intBin]; rfl
@[simp] theorem binV_neq : binV dd .neq (.p (.int k a)) (.p (.int k b)) = ⟨.p (.bool (!decide (a = b))), true⟩ := by simp [binV, intBin, bne]; rfl
@[simp] theorem binV_lss : binV dd .lss (.p (.int k a)) (.p (.int k b)) = ⟨.p (.bool (decide (a < b))), true⟩ := by simp [binV, intBin]
@[simp] theorem binV_leq : binV dd .leq (.p (.int k a)) (.p (.int k b)) = ⟨.p (.bool (decide (a ≤ b))), true⟩ := by simp [binV, intBin]
@[simp] theorem binV_gtr : binV dd .gtr (.p (.int k a)) (.p (.int k b)) = ⟨.p (.bool (decide (b < a))), true⟩ := by simp [binV, intBin]
@[simp] theorem binV_geq : binV dd .geq (.p (.int k a)) (.p (.int k b)) = ⟨.p (.bool (decide (b ≤ a))), true⟩ := by simp [binV, intBin]
@[simp] theorem binV_beql (a b : Bool) : binV .bool .eql (.p (.bool a)) (.p (.bool b)) = ⟨.p (.bool (a == b)), true⟩ := rfl
@[simp] theorem binV_bneq (a b : Bool) : binV .bool .neq (.p (.bool a)) (.p (.bool b)) = ⟨.p (.bool !(a == b)), true⟩ := rfl
@[simp] theorem unV_not (b : Bool) : unV .not (.p (.bool b)) = ⟨.p (.bool !b), true⟩ := rfl
@[simp] theorem unV_neg : unV .neg (.p (.int k a)) = ⟨.p (.int k (k.wrap (0 - a))), true⟩ := rfl
def convC (src dst : Option TypeDesc) (x : AV) : O := match dst, x with
  | some (.int k), .p (.int _ n) => match src with
    | some (.int _) => ⟨.p (.int k (k.wrap n)), true⟩
    | _ => .bad
  | some .string, .p (.str s) => match src with
    | some .string => ⟨.p (.str s), true⟩
    | _ => .bad
  | _, _ => .bad
@[simp] theorem convV_eq (t t' : Nat) (x : AV) : convV T t t' x = convC (descOf T t) (descOf T t') x := rfl
@[simp] theorem convC_int (k' k'' : IntKind) : convC (some (.int k')) (some (.int k'')) (.p (.int k a)) = ⟨.p (.int k'' (k''.wrap a)), true⟩ := rfl
end
theorem wrap64 {a : Int} (h1 : -9223372036854775808 ≤ a) (h2 : a ≤ 9223372036854775807) : IntKind.i64.wrap a = a := by
  simp only [IntKind.wrap, IntKind.bits, IntKind.signed, Bool.true_and]
  split
  · rename_i h; simp at h; omega
  · rename_i h; simp at h; omega

-- ---------------------------------------------------------------- slices, structs
def bldC (T : Tab) (t : Nat) (i : Option TI) (ps : List (Nat × AV)) : O := match i with
  | some i => match i.desc with
    | .struct _ => .of ((fillS T t (i.zero.map .p) ps).map .agg)
    | _ => .bad
  | none => .bad
@[simp] theorem buildV_eq (T : Tab) (t : Nat) (ps : List (Nat × AV)) : buildV T t ps = bldC T t (T.info t) ps := rfl
@[simp] theorem bldC_some (T : Tab) (t : Nat) (fs : Array Field) (a b : Nat) (z : List PV) (ps : List (Nat × AV)) : bldC T t (some ⟨.struct fs, a, b, z⟩) ps = .of ((fillS T t (z.map .p) ps).map .agg) := rfl
@[simp] theorem fillS_nil (T : Tab) (t : Nat) (cs : List AV) : fillS T t cs [] = some cs := rfl
def fillC (T : Tab) (t : Nat) (cs : List AV) (v : AV) (r : List (Nat × AV)) : Option (Nat × TI) → Option (List AV)
  | some (o, i) => if v.cells.length = i.size ∧ o + i.size ≤ cs.length ∧ v.cells.all AV.one = true then fillS T t (splice cs o v.cells) r else none
  | none => none
@[simp] theorem fillS_cons (T : Tab) (t f : Nat) (cs : List AV) (v : AV) (r : List (Nat × AV)) : fillS T t cs ((f, v) :: r) = fillC T t cs v r (fieldOf T t f) := by
  simp only [fillS]; cases fieldOf T t f <;> rfl
@[simp] theorem fillC_some (T : Tab) (t o : Nat) (i : TI) (cs : List AV) (v : AV) (r : List (Nat × AV)) : fillC T t cs v r (some (o, i)) = if v.cells.length = i.size ∧ o + i.size ≤ cs.length ∧ v.cells.all AV.one = true then fillS T t (splice cs o v.cells) r else none := rfl
@[simp] theorem splice_eq (cs : List AV) (off : Nat) (vs : List AV) : splice cs off vs = cs.take off ++ vs ++ cs.drop (off + vs.length) := rfl
def slC (e : Option TI) (es : List PV) (l r : Int) : O := match e with
  | some e => ⟨.p (.sl ((es.take r.toNat).drop l.toNat)), decide (0 ≤ l ∧ l ≤ r ∧ r ≤ (es.length : Int)) && decide (l = 0 ∨ ∀ x ∈ es, x.cells.length = e.size)⟩
  | none => .bad
def slA (e : Option TI) (id g off len : Nat) (l r : Int) : Obj → O
  | .arr g' sz _ es => match e with
    | some e => ⟨.arr id g (off + l.toNat) (r - l).toNat, decide (0 ≤ l ∧ l ≤ r ∧ (off : Int) + r ≤ (es.length : Int)) && decide (g = g' ∧ sz = e.size ∧ off + len ≤ es.length)⟩
    | none => .bad
  | _ => .bad
@[simp] theorem slC_some (e : TI) (es : List PV) (l r : Int) : slC (some e) es l r = ⟨.p (.sl ((es.take r.toNat).drop l.toNat)), decide (0 ≤ l ∧ l ≤ r ∧ r ≤ (es.length : Int)) && decide (l = 0 ∨ ∀ x ∈ es, x.cells.length = e.size)⟩ := rfl
@[simp] theorem slA_some (e : TI) (id g off len g' sz : Nat) (sh : Bool) (es : List PV) (l r : Int) : slA (some e) id g off len l r (.arr g' sz sh es) = ⟨.arr id g (off + l.toNat) (r - l).toNat, decide (0 ≤ l ∧ l ≤ r ∧ (off : Int) + r ≤ (es.length : Int)) && decide (g = g' ∧ sz = e.size ∧ off + len ≤ es.length)⟩ := rfl
section
variable (T : Tab) (h : Hp) (t id g off len : Nat) (es : List PV) (k k' : IntKind) (l r : Int)
@[simp] theorem sliceV_sl2 : sliceV T h t (.p (.sl es)) (some (.p (.int k l))) (some (.p (.int k' r))) = slC (elemOf T t) es l r := rfl
@[simp] theorem sliceV_sl1 : sliceV T h t (.p (.sl es)) (some (.p (.int k l))) none = slC (elemOf T t) es l es.length := rfl
@[simp] theorem sliceV_sl0 : sliceV T h t (.p (.sl es)) none (some (.p (.int k r))) = slC (elemOf T t) es 0 r := rfl
@[simp] theorem sliceV_arr2 : sliceV T h t (.arr id g off len) (some (.p (.int k l))) (some (.p (.int k' r))) = slA (elemOf T t) id g off len l r (h.at id) := by
  simp only [sliceV, bnd, AV.lenOf, Option.bind, slA]; cases elemOf T t <;> cases h.at id <;> rfl
@[simp] theorem sliceV_arr1 : sliceV T h t (.arr id g off len) (some (.p (.int k l))) none = slA (elemOf T t) id g off len l len (h.at id) := by
  simp only [sliceV, bnd, AV.lenOf, Option.bind, slA]; cases elemOf T t <;> cases h.at id <;> rfl
@[simp] theorem sliceV_arr0 : sliceV T h t (.arr id g off len) none (some (.p (.int k r))) = slA (elemOf T t) id g off len 0 r (h.at id) := by
  simp only [sliceV, bnd, AV.lenOf, Option.bind, slA]; cases elemOf T t <;> cases h.at id <;> rfl
end
@[simp] theorem pic_sl (h : Hp) (l : List PV) : pic h (.p (.sl l)) = some l := rfl
@[simp] theorem pic_nils (h : Hp) : pic h (.p .nils) = some [] := rfl
def picO (g off len : Nat) : Obj → Option (List PV)
  | .arr g' _ _ es => if g = g' ∧ off + len ≤ es.length then some ((es.drop off).take len) else none
  | _ => none
@[simp] theorem pic_arr (h : Hp) (id g off len : Nat) : pic h (.arr id g off len) = picO g off len (h.at id) := by simp only [pic, picO]; rfl
@[simp] theorem picO_arr (g off len g' sz : Nat) (sh : Bool) (es : List PV) : picO g off len (.arr g' sz sh es) = if g = g' ∧ off + len ≤ es.length then some ((es.drop off).take len) else none := rfl
attribute [simp] bslC.eq_def fillE zeroElem.eq_def
@[simp] theorem mslC_int (e : Option TI) (k k' : IntKind) (n m : Int) : mslC e (.p (.int k n)) (.p (.int k' m)) = e.map fun e =>
        ⟨fun id => .arr id 0 0 n.toNat, fun _ => .arr 0 e.size false (List.replicate n.toNat (zeroElem e)), [], decide (0 < e.size ∧ 0 ≤ n ∧ n ≤ m ∧ m ≤ 1099511627776 ∧ e.bytes * m ≤ 1099511627776 ∧ (zeroElem e).cells.length = e.size)⟩ := rfl
attribute [simp] AV.toP
-- ---------------------------------------------------------------- writes
def storeR (h : Hp) (id off : Nat) (v : AV) : Obj → Option Hp
  | .box cs => if off + v.cells.length ≤ cs.length then some (h.set id (.box (splice cs off v.cells))) else none
  | _ => none
@[simp] theorem storeR_box (h : Hp) (id off : Nat) (v : AV) (cs : List AV) : storeR h id off v (.box cs) = if off + v.cells.length ≤ cs.length then some (h.set id (.box (splice cs off v.cells))) else none := rfl
def storeE (h : Hp) (id g j off : Nat) (v : AV) (o : Obj) : Option Hp :=
  match o, toPs v.cells with
      | .arr g' sz false es, some ps => if g = g' ∧ j < es.length then (es[j]?).bind fun x => (x.setCells off ps).map fun y => h.set id (.arr g' sz false (es.set j y)) else none
      | _, _ => none
@[simp] theorem storeE_arr (h : Hp) (id g j off g' sz : Nat) (v : AV) (es : List PV) : storeE h id g j off v (.arr g' sz false es) = (toPs v.cells).bind fun ps => if g = g' ∧ j < es.length then (es[j]?).bind fun x => (x.setCells off ps).map fun y => h.set id (.arr g' sz false (es.set j y)) else none := by
  simp only [storeE]; cases toPs v.cells <;> rfl
def storeC (h : Hp) (i : Option TI) (a v : AV) : Option Hp := match i with
  | none => none
  | some i => if v.cells.length = i.size ∧ v.cells.all AV.one = true then
    match a with
    | .ref id off => storeR h id off v (h.at id)
    | .elt id g j off => storeE h id g j off v (h.at id)
    | _ => none
  else none
@[simp] theorem storeW_eq (T : Tab) (h : Hp) (t : Nat) (a v : AV) : storeW T h t a v = storeC h (T.info t) a v := by
  simp only [storeW, storeC]
  cases T.info t with
  | none => rfl
  | some i =>
    simp only
    split
    · rename_i hc
      cases a with
      | ref id off => simp only [storeR]; cases h.at id <;> simp [hc.1]
      | elt id g j off => simp only [storeE]; rfl
      | _ => rfl
    · rfl
@[simp] theorem storeC_ref (h : Hp) (i : TI) (id off : Nat) (v : AV) : storeC h (some i) (.ref id off) v = if v.cells.length = i.size ∧ v.cells.all AV.one = true then storeR h id off v (h.at id) else none := rfl
@[simp] theorem storeC_elt (h : Hp) (i : TI) (id g j off : Nat) (v : AV) : storeC h (some i) (.elt id g j off) v = if v.cells.length = i.size ∧ v.cells.all AV.one = true then storeE h id g j off v (h.at id) else none := rfl
@[simp] theorem setCells_int (k : IntKind) (n : Int) (y : PV) : PV.setCells (.int k n) 0 [y] = some y := rfl
@[simp] theorem setCells_bool (b : Bool) (y : PV) : PV.setCells (.bool b) 0 [y] = some y := rfl
@[simp] theorem setCells_agg (cs : List PV) (off : Nat) (vs : List PV) : PV.setCells (.agg cs) off vs = if off + vs.length ≤ cs.length then some (.agg (spliceP cs off vs)) else none := rfl
@[simp] theorem spliceP_eq (cs : List PV) (off : Nat) (vs : List PV) : spliceP cs off vs = cs.take off ++ vs ++ cs.drop (off + vs.length) := rfl
@[simp] theorem appO_nils (x : X) (rd : Hp) (free : Bool) (g : Option Bool) (d : Option Nat) (s : St) (e e' : Option TI) (y : AV) (K : Bool) : appO x rd free g d s e e' (.p .nils) y K = mkOO x g d s (appA e e' (pic rd y)) K := rfl
@[simp] theorem appO_arr (x : X) (rd : Hp) (free : Bool) (g : Option Bool) (d : Option Nat) (s : St) (e e' : Option TI) (id gn off len : Nat) (y : AV) (K : Bool) : appO x rd free g d s e e' (.arr id gn off len) y K = wrO x.nt d free g s (appW s.hp id gn off len e e' (pic s.hp y)) K := rfl
@[simp] theorem appA_some (e e' : TI) (xs : List PV) : appA (some e) (some e') (some xs) = some ⟨fun id => .arr id 0 0 xs.length, fun _ => .arr 0 e.size false xs, [], decide (0 < e.size ∧ xs.length * e.bytes ≤ 1099511627776 ∧ xs.length ≤ 1099511627776 ∧ ∀ y ∈ xs, y.cells.length = e.size)⟩ := rfl
def appR (h : Hp) (id gn off len : Nat) (e : TI) (xs : List PV) : Obj → Option (Hp × AV)
  | .arr g' sz sh es =>
          if gn = g' ∧ 0 < sz ∧ sz = e.size ∧ (len + xs.length) * e.bytes ≤ 1099511627776 ∧ len + xs.length ≤ 1099511627776 ∧ (∀ y ∈ xs, y.cells.length = e.size) then
            if off + len = es.length then (if off = 0 ∧ xs.length = 0 then some (h, .arr id gn off len) else some (h.set id (.arr (gn + xs.length + (if off = 0 then 0 else 1)) sz sh (es.drop off ++ xs)), .arr id (gn + xs.length + (if off = 0 then 0 else 1)) 0 (len + xs.length)))
            else if off + len + xs.length ≤ es.length ∧ sh = false then some (h.set id (.arr gn sz sh (es.take (off + len) ++ xs ++ es.drop (off + len + xs.length))), .arr id gn off (len + xs.length))
            else none
          else none
  | _ => none
@[simp] theorem appW_some (h : Hp) (id gn off len : Nat) (e e' : TI) (xs : List PV) : appW h id gn off len (some e) (some e') (some xs) = appR h id gn off len e xs (h.at id) := by
  simp only [appW, appR]; cases h.at id <;> rfl
/-- One cell is put behind a row that is seen whole. -/
@[simp] theorem appR_arr (h : Hp) (id gn off len : Nat) (e : TI) (xs : List PV) (g' sz : Nat) (sh : Bool) (es : List PV) : appR h id gn off len e xs (.arr g' sz sh es) =
          if gn = g' ∧ 0 < sz ∧ sz = e.size ∧ (len + xs.length) * e.bytes ≤ 1099511627776 ∧ len + xs.length ≤ 1099511627776 ∧ (∀ y ∈ xs, y.cells.length = e.size) then
            if off + len = es.length then (if off = 0 ∧ xs.length = 0 then some (h, .arr id gn off len) else some (h.set id (.arr (gn + xs.length + (if off = 0 then 0 else 1)) sz sh (es.drop off ++ xs)), .arr id (gn + xs.length + (if off = 0 then 0 else 1)) 0 (len + xs.length)))
            else if off + len + xs.length ≤ es.length ∧ sh = false then some (h.set id (.arr gn sz sh (es.take (off + len) ++ xs ++ es.drop (off + len + xs.length))), .arr id gn off (len + xs.length))
            else none
          else none := rfl

-- ---------------------------------------------------------------- calls, functions
@[simp] theorem bsOf_false (rd : Hp) (as : List AV) : bsOf false rd as = as.map (snap rd) := rfl
@[simp] theorem bsOf_true (rd : Hp) (as : List AV) : bsOf true rd as = as := rfl
@[simp] theorem idsOf_false (as : List AV) : idsOf false as = as.flatMap arrIds := rfl
@[simp] theorem idsOf_true (as : List AV) : idsOf true as = [] := rfl
@[simp] theorem snap_p (h : Hp) (y : PV) : snap h (.p y) = .p y := rfl
@[simp] theorem snap_agg (h : Hp) (cs : List AV) : snap h (.agg cs) = .agg (cs.map (snap1 h)) := rfl
@[simp] theorem snap1_p (h : Hp) (y : PV) : snap1 h (.p y) = .p y := rfl
@[simp] theorem snap_ref (h : Hp) (a b : Nat) : snap h (.ref a b) = .ref a b := rfl
@[simp] theorem snap1_ref (h : Hp) (a b : Nat) : snap1 h (.ref a b) = .ref a b := rfl
@[simp] theorem snap_fn (h : Hp) (a : Nat) (l : List AV) : snap h (.fn a l) = .fn a l := rfl
@[simp] theorem snap_yl (h : Hp) (a : Nat) : snap h (.yl a) = .yl a := rfl
@[simp] theorem snap_map (h : Hp) (a : Nat) : snap h (.map a) = .map a := rfl
def snapC : Option (List PV) → AV
  | some l => .p (.sl l)
  | none => .undef
@[simp] theorem snapC_some (l : List PV) : snapC (some l) = .p (.sl l) := rfl
@[simp] theorem snap_arr (h : Hp) (id g off len : Nat) : snap h (.arr id g off len) = snapC (picO g off len (h.at id)) := by rw [← pic_arr]; rfl
@[simp] theorem snap1_arr (h : Hp) (id g off len : Nat) : snap1 h (.arr id g off len) = snapC (picO g off len (h.at id)) := by rw [← pic_arr]; rfl
@[simp] theorem arrIds_p (y : PV) : arrIds (.p y) = [] := rfl
@[simp] theorem arrIds_ref (a b : Nat) : arrIds (.ref a b) = [] := rfl
@[simp] theorem arrIds_fn (a : Nat) (l : List AV) : arrIds (.fn a l) = [] := rfl
@[simp] theorem arrIds_arr (id g off len : Nat) : arrIds (.arr id g off len) = [id] := rfl
def arrIds1 : AV → List Nat
  | .arr id _ _ _ => [id]
  | _ => []
@[simp] theorem arrIds_agg (cs : List AV) : arrIds (.agg cs) = cs.flatMap arrIds1 := rfl
@[simp] theorem arrIds1_arr (id g off len : Nat) : arrIds1 (.arr id g off len) = [id] := rfl
@[simp] theorem arrIds1_p (y : PV) : arrIds1 (.p y) = [] := rfl
@[simp] theorem arrIds1_ref (a b : Nat) : arrIds1 (.ref a b) = [] := rfl
@[simp] theorem scalar1_int (k : IntKind) (n : Int) : scalar1 (.p (.int k n)) = true := rfl
@[simp] theorem scalar1_bool (b : Bool) : scalar1 (.p (.bool b)) = true := rfl
@[simp] theorem scalar1_str (b : ByteArray) : scalar1 (.p (.str b)) = true := rfl
@[simp] theorem scalar1_nils : scalar1 (.p .nils) = true := rfl
@[simp] theorem scalar1_sl (l : List PV) : scalar1 (.p (.sl l)) = false := rfl
@[simp] theorem scalar1_arr (a b c d : Nat) : scalar1 (.arr a b c d) = false := rfl
@[simp] theorem scalar_p (y : PV) : scalar (.p y) = scalar1 (.p y) := rfl
@[simp] theorem scalar_agg (cs : List AV) : scalar (.agg cs) = cs.all scalar1 := rfl
@[simp] theorem scalar_arr (a b c d : Nat) : scalar (.arr a b c d) = false := rfl
def scalar2 : AV → Bool
  | .agg cs => cs.all scalar1
  | x => scalar1 x
@[simp] theorem scalar_tup (vs : List AV) : scalar (.tup vs) = vs.all scalar2 := rfl
@[simp] theorem scalar2_p (y : PV) : scalar2 (.p y) = scalar1 (.p y) := rfl
@[simp] theorem scalar2_agg (cs : List AV) : scalar2 (.agg cs) = cs.all scalar1 := rfl
@[simp] theorem share_nil (h : Hp) : share h [] = h := rfl
@[simp] theorem share_cons (h : Hp) (i : Nat) (l : List Nat) : share h (i :: l) = shareFrom (i :: l) 0 h := rfl
attribute [simp] shareFrom
@[simp] theorem markS_arr (g sz : Nat) (b : Bool) (es : List PV) : markS (.arr g sz b es) = .arr g sz true es := rfl
@[simp] theorem isArrO_arr (g sz : Nat) (b : Bool) (es : List PV) : isArrO (.arr g sz b es) = true := rfl
@[simp] theorem shiftV_arr (k id g off len : Nat) : shiftV k (.arr id g off len) = .arr (id + k) g off len := rfl
@[simp] theorem shiftV_p (k : Nat) (y : PV) : shiftV k (.p y) = .p y := rfl
@[simp] theorem norm_eq (ks : List Nat) (m : Nat) (s : St) : norm ks m s = ⟨ks.map fun k => (k, keepV m (look s.tm k)), (s.hp.take m).map (lowO m)⟩ := rfl
@[simp] theorem keepV_p (m : Nat) (y : PV) : keepV m (.p y) = .p y := rfl
@[simp] theorem keepV_undef (m : Nat) : keepV m .undef = .undef := by unfold keepV; split <;> rfl
@[simp] theorem keepV_ref (m a b : Nat) : keepV m (.ref a b) = if a < m then .ref a b else .undef := by simp [keepV, below, below2, below1]
@[simp] theorem keepV_arr (m a b c d : Nat) : keepV m (.arr a b c d) = if a < m then .arr a b c d else .undef := by simp [keepV, below, below2, below1]
@[simp] theorem keepV_map (m a : Nat) : keepV m (.map a) = if a < m then .map a else .undef := by simp [keepV, below, below2, below1]
@[simp] theorem keepV_yl (m a : Nat) : keepV m (.yl a) = if a < m then .yl a else .undef := by simp [keepV, below, below2, below1]
@[simp] theorem keepV_agg (m : Nat) (cs : List AV) : keepV m (.agg cs) = if cs.all (below1 m) = true then .agg cs else .undef := rfl
@[simp] theorem keepV_fn (m f : Nat) (cs : List AV) : keepV m (.fn f cs) = if cs.all (below1 m) = true then .fn f cs else .undef := rfl
@[simp] theorem below1_p (m : Nat) (y : PV) : below1 m (.p y) = true := rfl
@[simp] theorem below1_ref (m a b : Nat) : below1 m (.ref a b) = decide (a < m) := rfl
@[simp] theorem below1_arr (m a b c d : Nat) : below1 m (.arr a b c d) = decide (a < m) := rfl
@[simp] theorem below1_map (m a : Nat) : below1 m (.map a) = decide (a < m) := rfl
@[simp] theorem below1_yl (m a : Nat) : below1 m (.yl a) = decide (a < m) := rfl
@[simp] theorem below2_p (m : Nat) (y : PV) : below2 m (.p y) = true := rfl
@[simp] theorem below2_ref (m a b : Nat) : below2 m (.ref a b) = decide (a < m) := rfl
@[simp] theorem below2_arr (m a b c d : Nat) : below2 m (.arr a b c d) = decide (a < m) := rfl
@[simp] theorem below2_map (m a : Nat) : below2 m (.map a) = decide (a < m) := rfl
@[simp] theorem below2_yl (m a : Nat) : below2 m (.yl a) = decide (a < m) := rfl
@[simp] theorem below2_agg (m : Nat) (cs : List AV) : below2 m (.agg cs) = cs.all (below1 m) := rfl
@[simp] theorem below2_fn (m f : Nat) (cs : List AV) : below2 m (.fn f cs) = cs.all (below1 m) := rfl
@[simp] theorem lowO_box (m : Nat) (cs : List AV) : lowO m (.box cs) = if cs.all (below2 m) = true then .box cs else .dead := rfl
@[simp] theorem lowO_arr (m g sz : Nat) (b : Bool) (es : List PV) : lowO m (.arr g sz b es) = .arr g sz b es := rfl
@[simp] theorem lowO_map (m : Nat) (es : List (PV × PV)) : lowO m (.map es) = .map es := rfl
@[simp] theorem lowO_loop (m f lid : Nat) (st : LS) (tm : Tm) : lowO m (.loop st f lid tm) = .loop st f lid tm := rfl
@[simp] theorem lowO_dead (m : Nat) : lowO m .dead = .dead := rfl

-- ---------------------------------------------------------------- a function's end
def ret2 (h : Hp) (m : Nat) (vs : Option (List AV)) : Option (AV × Hp) := match vs with
  | some vs => if vs.all (below2 m) = true ∧ m ≤ h.length then some (one1 vs, (h.take m).map (lowO m)) else none
  | none => none
def ret1 (x : X) (h : Hp) (m : Nat) (vs : Option (List AV)) : Option (AV × Hp) := match vs with
  | some vs => if (!x.T.fresh x.f || vs.all (freshV h m)) = true then
      if x.T.gives x.f = true then (if m ≤ h.length ∧ x.T.fresh x.f = false then some (one1 vs, h) else none)
      else ret2 h m (mapO (freeze h m 5) vs) else none
  | none => none
def endR (x : X) (m : Nat) (rs : List ResultVar) (r : Option (Ex × St)) : Option (AV × Hp) := match r with
  | some (.nor, s) => ret1 x s.hp m (outs x.T s.hp s.tm rs)
  | some (.ret, s) => ret1 x s.hp m (outs x.T s.hp s.tm rs)
  | _ => none
@[simp] theorem endR_nor (x : X) (m : Nat) (rs : List ResultVar) (s : St) : endR x m rs (some (.nor, s)) = ret1 x s.hp m (outs x.T s.hp s.tm rs) := rfl
@[simp] theorem endR_ret (x : X) (m : Nat) (rs : List ResultVar) (s : St) : endR x m rs (some (.ret, s)) = ret1 x s.hp m (outs x.T s.hp s.tm rs) := rfl
@[simp] theorem ret1_some (x : X) (h : Hp) (m : Nat) (vs : List AV) : ret1 x h m (some vs) = if (!x.T.fresh x.f || vs.all (freshV h m)) = true then
      if x.T.gives x.f = true then (if m ≤ h.length ∧ x.T.fresh x.f = false then some (one1 vs, h) else none)
      else ret2 h m (mapO (freeze h m 5) vs) else none := rfl
@[simp] theorem ret2_some (h : Hp) (m : Nat) (vs : List AV) : ret2 h m (some vs) = if vs.all (below2 m) = true ∧ m ≤ h.length then some (one1 vs, (h.take m).map (lowO m)) else none := rfl
def consO (a : Option AV) (l : Option (List AV)) : Option (List AV) := match a, l with
  | some a, some l => some (a :: l)
  | _, _ => none
@[simp] theorem consO_some (a : AV) (l : List AV) : consO (some a) (some l) = some (a :: l) := rfl
@[simp] theorem mapO_nil (f : AV → Option AV) : mapO f [] = some [] := rfl
@[simp] theorem mapO_cons (f : AV → Option AV) (a : AV) (r : List AV) : mapO f (a :: r) = consO (f a) (mapO f r) := by
  simp only [mapO, consO]; cases f a <;> cases mapO f r <;> rfl
@[simp] theorem freeze_p (h : Hp) (m n : Nat) (y : PV) : freeze h m (n + 1) (.p y) = some (.p y) := rfl
@[simp] theorem freeze_arr (h : Hp) (m n id g off len : Nat) : freeze h m (n + 1) (.arr id g off len) = if id < m then some (.arr id g off len) else (picO g off len (h.at id)).map fun l => .p (.sl l) := by rw [← pic_arr]; rfl
@[simp] theorem freeze_agg (h : Hp) (m n : Nat) (cs : List AV) : freeze h m (n + 1) (.agg cs) = (mapO (freeze h m n) cs).map .agg := by
  simp only [freeze]; cases mapO (freeze h m n) cs <;> rfl
@[simp] theorem freeze_ref (h : Hp) (m n id off : Nat) : freeze h m (n + 1) (.ref id off) = if id < m then some (.ref id off) else (boxAt off (h.at id)).bind fun c => (mapO (freeze h m n) c.1).bind fun l => (toPs l).map fun ps => .p (.ptr ps off) := by
  simp only [freeze, boxAt]
  split
  · rfl
  · cases h.at id with
    | box cs => simp only [Option.bind]; cases mapO (freeze h m n) cs <;> rfl
    | _ => rfl
def frzF (f : Nat) (l : List AV) : Option AV := match toPs l with
    | some ps => some (.p (.fn f ps))
    | none => some (.fn f l)
@[simp] theorem freeze_fn (h : Hp) (m n f : Nat) (cs : List AV) : freeze h m (n + 1) (.fn f cs) = (mapO (freeze h m n) cs).bind (frzF f) := by
  simp only [freeze]; cases mapO (freeze h m n) cs <;> rfl
@[simp] theorem freeze_map (h : Hp) (m n id : Nat) : freeze h m (n + 1) (.map id) = if id < m then some (.map id) else none := rfl
@[simp] theorem outs_nil (T : Tab) (h : Hp) (tm : Tm) : outs T h tm [] = some [] := rfl
@[simp] theorem outs_tmp (T : Tab) (h : Hp) (tm : Tm) (t : Nat) (r : List ResultVar) : outs T h tm (.tmp t :: r) = consO (some (look tm t)) (outs T h tm r) := by
  simp only [outs]; cases outs T h tm r <;> rfl
def celC (a : O) (l : Option (List AV)) : Option (List AV) := if a.ok = true then consO (some a.v) l else none
@[simp] theorem celC_eq (a : O) (l : Option (List AV)) : celC a l = if a.ok = true then consO (some a.v) l else none := rfl
@[simp] theorem outs_cell (T : Tab) (h : Hp) (tm : Tm) (a t : Nat) (r : List ResultVar) : outs T h tm (.cell a t :: r) = celC (loadV T h t (look tm a)) (outs T h tm r) := by
  simp only [outs, celC]; split
  · cases outs T h tm r <;> rfl
  · rfl
@[simp] theorem one1_one (v : AV) : one1 [v] = v := rfl
@[simp] theorem one1_two (v w : AV) (r : List AV) : one1 (v :: w :: r) = .tup (v :: w :: r) := rfl
@[simp] theorem one1_none : one1 [] = .tup [] := rfl
@[simp] theorem freshV_int (h : Hp) (m : Nat) (k : IntKind) (n : Int) : freshV h m (.p (.int k n)) = true := rfl
@[simp] theorem freshV_bool (h : Hp) (m : Nat) (b : Bool) : freshV h m (.p (.bool b)) = true := rfl
@[simp] theorem freshV_nils (h : Hp) (m : Nat) : freshV h m (.p .nils) = true := rfl
def freshO (m id : Nat) : Obj → Bool
  | .arr _ _ _ es => decide (m ≤ id) && es.all fun y => y.cells.all scalarP
  | _ => false
@[simp] theorem freshV_arr (h : Hp) (m id g off len : Nat) : freshV h m (.arr id g off len) = freshO m id (h.at id) := by
  simp only [freshV, scalar1, Bool.false_or, freshO]; cases h.at id <;> simp
@[simp] theorem freshO_arr (m id g sz : Nat) (b : Bool) (es : List PV) : freshO m id (.arr g sz b es) = (decide (m ≤ id) && es.all fun y => y.cells.all scalarP) := rfl
@[simp] theorem scalarP_int (k : IntKind) (n : Int) : scalarP (.int k n) = true := rfl
@[simp] theorem scalarP_bool (b : Bool) : scalarP (.bool b) = true := rfl
@[simp] theorem scalarP_str (b : ByteArray) : scalarP (.str b) = true := rfl

/-- A function that is entered. -/
theorem enter_eq {T : Tab} {call : CallF} {yield : YieldF} {fuel f : Nat} {fn : Func} {args : List AV} {h : Hp} {c : Code} {nt : Nat} {rs : List ResultVar} (hc : fn.body = some c) (hn : fn.ntmps = nt) (hr : fn.results.toList = rs) (ha : args.length ≤ nt) :
    enter T call yield fuel f fn args h = endR ⟨T, call, yield, f, nt, fuel, false⟩ h.length rs (evc ⟨T, call, yield, f, nt, fuel, false⟩ c 0 ⟨numbered args 0, h⟩) := by
  subst hn; subst hr
  simp only [enter, hc, if_pos ha]
  have key : ∀ s : St, retV ⟨T, call, yield, f, fn.ntmps, fuel, false⟩ h.length fn s = ret1 ⟨T, call, yield, f, fn.ntmps, fuel, false⟩ s.hp h.length (outs T s.hp s.tm fn.results.toList) := by
    intro s
    simp only [retV]
    cases outs T s.hp s.tm fn.results.toList with
    | none => rfl
    | some vs =>
      simp only [obind_some, ret1_some]
      cases hf : (!T.fresh f || vs.all (freshV s.hp h.length))
      · simp [chk_false, obind_none]
      · simp only [chk_true, obind_some, if_true]
        split
        · rfl
        · cases mapO (freeze s.hp h.length 5) vs <;> rfl
  match evc ⟨T, call, yield, f, fn.ntmps, fuel, false⟩ c 0 ⟨numbered args 0, h⟩ with
  | none => rfl
  | some (.nor, s) => exact key s
  | some (.ret, s) => exact key s
  | some (.exit _, s) => rfl
end Go.En
namespace Go.En
theorem iterN_post {body : St → Option (Ex × St)} {ks : List Nat} {m : Nat} (N : Nat) (S : Nat → St) (P : Nat → Option (Ex × St) → Prop)
    (hstep : ∀ k, k ≤ N → ∀ K : St → Option (Ex × St), (k < N → P (k + 1) (K (S (k + 1)))) → P k (roundN ks m (body (S k)) K)) :
    ∀ fuel k, k ≤ N → N - k < fuel → P k (iterN body ks m fuel (S k)) := by
  intro fuel
  induction fuel with
  | zero => intro k _ h; omega
  | succ f ih =>
    intro k hk hf
    simp only [iterN]
    rw [roundk_N]
    exact hstep k hk _ fun hlt => ih (k + 1) hlt (by omega)
/-- A loop of at most N + 1 rounds: what the k-th round begins with (S), and what is so of what the loop comes to from there (P). -/
theorem iter_post (N : Nat) (S : Nat → St) (P : Nat → Option (Ex × St) → Prop) {body : St → Option (Ex × St)} {ks : List Nat} {m fuel : Nat} {s : St} {r : Option (Ex × St)}
    (hr : iter body ks m fuel s = r) (hN : N < fuel) (hs : norm ks m s = S 0)
    (hstep : ∀ k, k ≤ N → ∀ K : St → Option (Ex × St), (k < N → P (k + 1) (K (S (k + 1)))) → P k (roundN ks m (body (S k)) K)) :
    P 0 r := by
  rw [← hr, iter_eq, hs]
  exact iterN_post N S P hstep fuel 0 (Nat.zero_le _) (by omega)

theorem seqC_ite (x : X) (c : Prop) [Decidable c] (a b : Option (Ex × St)) (k : Code) : seqC x (if c then a else b) k = if c then seqC x a k else seqC x b k := by split <;> rfl
theorem blockC_ite (i : Nat) (c : Prop) [Decidable c] (a b : Option (Ex × St)) : blockk i (if c then a else b) = if c then blockk i a else blockk i b := by split <;> rfl
theorem roundN_ite (ks : List Nat) (m : Nat) (c : Prop) [Decidable c] (a b : Option (Ex × St)) (K : St → Option (Ex × St)) : roundN ks m (if c then a else b) K = if c then roundN ks m a K else roundN ks m b K := by split <;> rfl
theorem endR_ite (x : X) (m : Nat) (rs : List ResultVar) (c : Prop) [Decidable c] (a b : Option (Ex × St)) : endR x m rs (if c then a else b) = if c then endR x m rs a else endR x m rs b := by split <;> rfl
theorem getD_map {α : Type} [Inhabited α] (f : α → PV) (l : List α) (i : Nat) (h : i < l.length) : (l.map f)[i]?.getD .nils = f (l[i]?.getD default) := by
  simp [h]
theorem drop_iff {α : Type} {a b : List α} {k : Nat} (h1 : k < a.length) (h2 : k < b.length) : a.drop k = b.drop k ↔ a[k] = b[k] ∧ a.drop (k + 1) = b.drop (k + 1) := by
  rw [List.drop_eq_getElem_cons h1, List.drop_eq_getElem_cons h2, List.cons.injEq]
end Go.En
namespace Go.En
/-- What an operation that is not carried out would yield. -/
def garb : Option O → AV
  | some r => r.v
  | none => .undef
@[simp] theorem garb_some (r : O) : garb (some r) = r.v := rfl
@[simp] theorem anyO_off (nt : Nat) (d : Option Nat) (s : St) (r : Option O) (K : Bool) : anyO nt d (some false) s r K = if dstOk nt d = true then some ⟨putO s.tm d (.gd false (garb r)), s.hp⟩ else none := by
  cases r with
  | none => simp only [anyO, badO]; cases dstOk nt d <;> rfl
  | some r => simp [anyO]
@[simp] theorem wrO_off (nt : Nat) (d : Option Nat) (free : Bool) (s : St) (r : Option (Hp × AV)) (K : Bool) : wrO nt d free (some false) s r K = if dstOk nt d = true then some ⟨putO s.tm d (.gd false .undef), s.hp⟩ else none := by
  simp only [wrO]; cases dstOk nt d <;> rfl
@[simp] theorem wrO_on (nt : Nat) (d : Option Nat) (s : St) (r : Option (Hp × AV)) (K : Bool) : wrO nt d false (some true) s r K = if dstOk nt d = true ∧ K = true then obind r (fun r => some ⟨putO s.tm d (.gd true r.2), r.1⟩) else none := by
  simp only [wrO]; cases dstOk nt d <;> cases K <;> rfl
@[simp] theorem take_len_map {α β : Type} (f : α → β) (l : List α) : (l.map f).take l.length = l.map f := by rw [List.take_of_length_le (by simp)]
@[simp] theorem take_len_range {β : Type} (f : Nat → β) (n : Nat) : ((List.range n).map f).take n = (List.range n).map f := by rw [List.take_of_length_le (by simp)]
def yldV (r : Option (Bool × Hp)) : Option (AV × Hp) := obind r fun r => some (.p (.bool r.1), r.2)
end Go.En
