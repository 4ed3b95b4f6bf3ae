/- The evaluation's table for this program, and that it is so of its functions: no conditions. -/
import Derived.Test.YtjahccaafhfilaaC2
import Derived.Test.YtjahccaafhfilaaC3
import Derived.Test.YtjahccaafhfilaaProg
import Derived.KernelRfl
namespace Go.En.R40
open Go.Proofs

def fld (n : String) (t o b : Nat) (pkg : String := "") : Field := { name := n, type := t, offset := o, embedded := false, tag := "", pkgPath := pkg, byteOffset := b }

def ti (t : Nat) : Option TI := match t with
  | 3 => some ⟨.int .i64, 1, 8, [.int .i64 0]⟩
  | 4 => some ⟨.bool, 1, 1, [.bool false]⟩
  | 22 => some ⟨.slice 48, 1, 24, [.nils]⟩
  | 23 => some ⟨.slice 3, 1, 24, [.nils]⟩
  | 25 => some ⟨.struct #[fld "Items" 22 0 0, fld "Labels" 23 1 24], 2, 48, [.nils, .nils]⟩
  | 26 => some ⟨.slice 4, 1, 24, [.nils]⟩
  | 28 => some ⟨.int .i64, 1, 8, [.int .i64 0]⟩
  | 48 => some ⟨.struct #[fld "Size" 3 0 0, fld "Long" 3 1 8, fld "To" 3 2 16, fld "Low" 3 3 24, fld "High" 3 4 32, fld "LongLow" 3 5 40, fld "LongHigh" 3 6 48], 7, 56,
      [.int .i64 0, .int .i64 0, .int .i64 0, .int .i64 0, .int .i64 0, .int .i64 0, .int .i64 0]⟩
  | 62 => some ⟨.func #[3] #[3] false, 1, 8, [.nilf]⟩
  | 63 => some ⟨.func #[71] #[] false, 1, 8, [.nilf]⟩
  | 65 => some ⟨.pointer 68, 1, 8, [.nilp]⟩
  | 66 => some ⟨.map 3 4, 1, 8, [.nilm]⟩
  | 68 => some ⟨.struct #[fld "l" 23 0 0 "retarget/relax", fld "here" 66 1 24 "retarget/relax"], 2, 32, [.nils, .nilm]⟩
  | 71 => some ⟨.func #[3] #[4] false, 1, 8, [.nilf]⟩
  | _ => none

theorem ti_ok : ∀ t i, ti t = some i → tiOf Try.prog t = some i := by
  intro t i h
  unfold ti at h
  split at h <;> first | (cases h; kernel_rfl) | cases h
end Go.En.R40
set_option linter.unusedSimpArgs false
namespace Go.En.R40
open Go.Proofs

/-- The range over a function under a block. -/
def findLoop : Code → Nat → Nat → Option (List Nat × Code × Code)
  | .seq a b, _, id => match findLoop a 0 id with
    | some r => some r
    | none => findLoop b 0 id
  | .cond _ a b, _, id => match findLoop a 0 id with
    | some r => some r
    | none => findLoop b 0 id
  | .block k c, _, id => findLoop c k id
  | .loop c, _, id => findLoop c 0 id
  | .rangeFunc _ ps a b, k, id => if k = id then some (ps.toList, a, b) else none
  | _, _, _ => none

def kp (f b : Nat) : List Nat := match f, b with
  | 5, 0 => [6, 7, 9, 11, 13]
  | 6, 0 => [1, 2, 3, 4, 6, 8]
  | 7, 0 => [1, 2, 4, 5, 6, 8]
  | 8, 0 => [1, 4, 5, 6, 10]
  | 10, 0 => [3, 4, 9, 10]
  | 11, 0 => [2, 3, 4, 5, 6, 7, 8, 9, 11, 13, 14, 94, 95, 96]
  | 15, 0 => [1, 2, 4, 5, 7, 20, 21, 22]
  | 17, 0 => [0, 1, 4, 5]
  | 18, 0 => [1, 3, 19, 20, 21]
  | 18, 2 => [1, 3, 35, 36, 37]
  | 20, 0 => [0, 1, 4, 5]
  | 21, 0 => [1, 2, 3, 5, 6, 23, 24, 25]
  | 22, 0 => [1, 4, 5]
  | 22, 2 => [1, 2, 3, 4, 6, 7]
  | 27, 0 => [2, 6, 20, 21, 22]
  | 29, 0 => [1, 2, 4, 5]
  | 30, 0 => [1, 2, 5, 6]
  | 32, 0 => [1, 2, 4, 5, 6]
  | 34, 0 => [1, 2, 3]
  | 34, 2 => [1, 2, 4]
  | 35, 0 => [2, 3, 5, 6, 7]
  | 41, 0 => [1, 2, 6, 7, 8]
  | 44, 0 => [0, 2, 4, 6, 7]
  | _, _ => []

noncomputable def fs (f : Nat) : Option Func := if 3 ≤ f ∧ f ≤ 44 then Try.prog.funcs[f]? else none

noncomputable def T : Tab where
  info := ti
  keep := kp
  own := fun f d => match f, d with
    | 28, 5 => 1
    | 35, 10 => 1
    | _, _ => 0
  muts := fun f => match f with
    | 35 => true
    | _ => false
  seqs := fun f r => match f, r with
    | 43, 1 => [15]
    | 21, 4 => [5]
    | 5, 4 => [8]
    | 5, 5 => [11, 12, 13]
    | 5, 7 => [11, 12, 13]
    | 10, 11 => [8]
    | 10, 16 => [9, 10, 11]
    | 10, 17 => [9, 10, 11]
    | _, _ => []
  fresh := fun f => match f with
    | 28 => true
    | _ => false
  late := fun f r => match f, r with
    | 5, 4 => some (3, 1, [0, 1, 2])
    | 10, 11 => some (3, 2, [0, 1, 2])
    | 10, 16 => some (8, 2, [0, 1, 2, 6, 7])
    | 10, 17 => some (8, 2, [0, 1, 2, 6, 7])
    | _, _ => none
  gives := fun f => match f with
    | 40 => true
    | _ => false
  loops := fun f id => match f, id with
    | 28, 0 => (Try.f28.body).bind fun c => findLoop c 0 0
    | _, _ => none

theorem T_ok : T.Ok Try.prog := tab_ok ti_ok

noncomputable def R (n : Nat) : CallF := run T fs (fun _ _ _ => none) n
noncomputable def Y (n : Nat) : YieldF := (sys T fs (fun _ _ _ => none) n).2
end Go.En.R40
namespace Go.En.R40
open Go.Proofs
noncomputable def bOk (f : Nat) (fn : Func) : Bool := !(fn.name == "runtime.NumGoroutine") && match fn.body with | some c => bodyOk T f c | none => true
theorem b3 : bOk 3 Try.f3 = true := by kernel_rfl
theorem b4 : bOk 4 Try.f4 = true := by kernel_rfl
theorem b5 : bOk 5 Try.f5 = true := by kernel_rfl
theorem b6 : bOk 6 Try.f6 = true := by kernel_rfl
theorem b7 : bOk 7 Try.f7 = true := by kernel_rfl
theorem b8 : bOk 8 Try.f8 = true := by kernel_rfl
theorem b9 : bOk 9 Try.f9 = true := by kernel_rfl
theorem b10 : bOk 10 Try.f10 = true := by kernel_rfl
theorem b11 : bOk 11 Try.f11 = true := by kernel_rfl
theorem b12 : bOk 12 Try.f12 = true := by kernel_rfl
theorem b13 : bOk 13 Try.f13 = true := by kernel_rfl
theorem b14 : bOk 14 Try.f14 = true := by kernel_rfl
theorem b15 : bOk 15 Try.f15 = true := by kernel_rfl
theorem b16 : bOk 16 Try.f16 = true := by kernel_rfl
theorem b17 : bOk 17 Try.f17 = true := by kernel_rfl
theorem b18 : bOk 18 Try.f18 = true := by kernel_rfl
theorem b19 : bOk 19 Try.f19 = true := by kernel_rfl
theorem b20 : bOk 20 Try.f20 = true := by kernel_rfl
theorem b21 : bOk 21 Try.f21 = true := by kernel_rfl
theorem b22 : bOk 22 Try.f22 = true := by kernel_rfl
theorem b23 : bOk 23 Try.f23 = true := by kernel_rfl
theorem b24 : bOk 24 Try.f24 = true := by kernel_rfl
theorem b25 : bOk 25 Try.f25 = true := by kernel_rfl
theorem b26 : bOk 26 Try.f26 = true := by kernel_rfl
theorem b27 : bOk 27 Try.f27 = true := by kernel_rfl
theorem b28 : bOk 28 Try.f28 = true := by kernel_rfl
theorem b29 : bOk 29 Try.f29 = true := by kernel_rfl
theorem b30 : bOk 30 Try.f30 = true := by kernel_rfl
theorem b31 : bOk 31 Try.f31 = true := by kernel_rfl
theorem b32 : bOk 32 Try.f32 = true := by kernel_rfl
theorem b33 : bOk 33 Try.f33 = true := by kernel_rfl
theorem b34 : bOk 34 Try.f34 = true := by kernel_rfl
theorem b35 : bOk 35 Try.f35 = true := by kernel_rfl
theorem b36 : bOk 36 Try.f36 = true := by kernel_rfl
theorem b37 : bOk 37 Try.f37 = true := by kernel_rfl
theorem b38 : bOk 38 Try.f38 = true := by kernel_rfl
theorem b39 : bOk 39 Try.f39 = true := by kernel_rfl
theorem b40 : bOk 40 Try.f40 = true := by kernel_rfl
theorem b41 : bOk 41 Try.f41 = true := by kernel_rfl
theorem b42 : bOk 42 Try.f42 = true := by kernel_rfl
theorem b43 : bOk 43 Try.f43 = true := by kernel_rfl
theorem b44 : bOk 44 Try.f44 = true := by kernel_rfl
end Go.En.R40
namespace Go.En
/-- Code without a range over a function. -/
def noRange : Code → Bool
  | .seq a b => noRange a && noRange b
  | .cond _ a b => noRange a && noRange b
  | .block _ c => noRange c
  | .loop c => noRange c
  | .rangeFunc _ _ _ _ => false
  | _ => true

theorem loopsOk_of {T : Tab} {f : Nat} : ∀ (c : Code) (id : Nat), noRange c = true → loopsOk T f c id := by
  intro c
  induction c with
  | seq a b iha ihb => intro id h; simp only [noRange, Bool.and_eq_true] at h; exact ⟨iha 0 h.1, ihb 0 h.2⟩
  | cond _ a b iha ihb => intro id h; simp only [noRange, Bool.and_eq_true] at h; exact ⟨iha 0 h.1, ihb 0 h.2⟩
  | block k c ih => intro id h; exact ih k h
  | loop c ih => intro id h; exact ih 0 h
  | rangeFunc _ _ _ _ => intro id h; cases h
  | _ => intro id _; trivial

end Go.En
namespace Go.En.R40
open Go.Proofs
def nOk (fn : Func) : Bool := match fn.body with | some c => noRange c | none => true
theorem n3 : nOk Try.f3 = true := by kernel_rfl
theorem n4 : nOk Try.f4 = true := by kernel_rfl
theorem n5 : nOk Try.f5 = true := by kernel_rfl
theorem n6 : nOk Try.f6 = true := by kernel_rfl
theorem n7 : nOk Try.f7 = true := by kernel_rfl
theorem n8 : nOk Try.f8 = true := by kernel_rfl
theorem n9 : nOk Try.f9 = true := by kernel_rfl
theorem n10 : nOk Try.f10 = true := by kernel_rfl
theorem n11 : nOk Try.f11 = true := by kernel_rfl
theorem n12 : nOk Try.f12 = true := by kernel_rfl
theorem n13 : nOk Try.f13 = true := by kernel_rfl
theorem n14 : nOk Try.f14 = true := by kernel_rfl
theorem n15 : nOk Try.f15 = true := by kernel_rfl
theorem n16 : nOk Try.f16 = true := by kernel_rfl
theorem n17 : nOk Try.f17 = true := by kernel_rfl
theorem n18 : nOk Try.f18 = true := by kernel_rfl
theorem n19 : nOk Try.f19 = true := by kernel_rfl
theorem n20 : nOk Try.f20 = true := by kernel_rfl
theorem n21 : nOk Try.f21 = true := by kernel_rfl
theorem n22 : nOk Try.f22 = true := by kernel_rfl
theorem n23 : nOk Try.f23 = true := by kernel_rfl
theorem n24 : nOk Try.f24 = true := by kernel_rfl
theorem n25 : nOk Try.f25 = true := by kernel_rfl
theorem n26 : nOk Try.f26 = true := by kernel_rfl
theorem n27 : nOk Try.f27 = true := by kernel_rfl
theorem n29 : nOk Try.f29 = true := by kernel_rfl
theorem n30 : nOk Try.f30 = true := by kernel_rfl
theorem n31 : nOk Try.f31 = true := by kernel_rfl
theorem n32 : nOk Try.f32 = true := by kernel_rfl
theorem n33 : nOk Try.f33 = true := by kernel_rfl
theorem n34 : nOk Try.f34 = true := by kernel_rfl
theorem n35 : nOk Try.f35 = true := by kernel_rfl
theorem n36 : nOk Try.f36 = true := by kernel_rfl
theorem n37 : nOk Try.f37 = true := by kernel_rfl
theorem n38 : nOk Try.f38 = true := by kernel_rfl
theorem n39 : nOk Try.f39 = true := by kernel_rfl
theorem n40 : nOk Try.f40 = true := by kernel_rfl
theorem n41 : nOk Try.f41 = true := by kernel_rfl
theorem n42 : nOk Try.f42 = true := by kernel_rfl
theorem n43 : nOk Try.f43 = true := by kernel_rfl
theorem n44 : nOk Try.f44 = true := by kernel_rfl
end Go.En.R40
namespace Go.En.R40
open Go.Proofs
def FnOk (f : Nat) (fn : Func) : Prop := Try.prog.funcs[f]? = some fn ∧ (fn.name == "runtime.NumGoroutine") = false ∧ ∀ c, fn.body = some c → bodyOk T f c = true ∧ loopsOk T f c 0
theorem fnOk_of {f : Nat} {fn : Func} (h1 : Try.prog.funcs[f]? = some fn) (h2 : bOk f fn = true) (h3 : nOk fn = true) : FnOk f fn := by
  simp only [bOk, Bool.and_eq_true, Bool.not_eq_true'] at h2
  refine ⟨h1, h2.1, fun c hc => ?_⟩
  have h4 := h2.2
  rw [hc] at h4
  simp only [nOk, hc] at h3
  exact ⟨h4, loopsOk_of c 0 h3⟩
theorem fnOk28 : FnOk 28 Try.f28 := by
  have h2 := b28
  simp only [bOk, Bool.and_eq_true, Bool.not_eq_true'] at h2
  refine ⟨Try.func28, h2.1, fun c hc => ?_⟩
  have h4 := h2.2
  rw [hc] at h4
  refine ⟨h4, ?_⟩
  have hb : Try.f28.body = some c := hc
  have hl : T.loops 28 0 = findLoop c 0 0 := by
    show (Try.f28.body).bind (fun c => findLoop c 0 0) = _
    rw [hb]; rfl
  unfold Try.f28 at hb
  cases hb
  refine ⟨trivial, trivial, trivial, ⟨trivial, hl, trivial, trivial⟩, trivial, trivial⟩
theorem fs_ok : ∀ f fn, fs f = some fn → FnOk f fn := by
  intro f fn h
  unfold fs at h
  split at h
  case isFalse => cases h
  rename_i hc
  obtain ⟨h1, h2⟩ := hc
  match f, h1, h2, h with
  | 3, _, _, h => rw [Try.func3] at h; cases h; exact fnOk_of Try.func3 b3 n3
  | 4, _, _, h => rw [Try.func4] at h; cases h; exact fnOk_of Try.func4 b4 n4
  | 5, _, _, h => rw [Try.func5] at h; cases h; exact fnOk_of Try.func5 b5 n5
  | 6, _, _, h => rw [Try.func6] at h; cases h; exact fnOk_of Try.func6 b6 n6
  | 7, _, _, h => rw [Try.func7] at h; cases h; exact fnOk_of Try.func7 b7 n7
  | 8, _, _, h => rw [Try.func8] at h; cases h; exact fnOk_of Try.func8 b8 n8
  | 9, _, _, h => rw [Try.func9] at h; cases h; exact fnOk_of Try.func9 b9 n9
  | 10, _, _, h => rw [Try.func10] at h; cases h; exact fnOk_of Try.func10 b10 n10
  | 11, _, _, h => rw [Try.func11] at h; cases h; exact fnOk_of Try.func11 b11 n11
  | 12, _, _, h => rw [Try.func12] at h; cases h; exact fnOk_of Try.func12 b12 n12
  | 13, _, _, h => rw [Try.func13] at h; cases h; exact fnOk_of Try.func13 b13 n13
  | 14, _, _, h => rw [Try.func14] at h; cases h; exact fnOk_of Try.func14 b14 n14
  | 15, _, _, h => rw [Try.func15] at h; cases h; exact fnOk_of Try.func15 b15 n15
  | 16, _, _, h => rw [Try.func16] at h; cases h; exact fnOk_of Try.func16 b16 n16
  | 17, _, _, h => rw [Try.func17] at h; cases h; exact fnOk_of Try.func17 b17 n17
  | 18, _, _, h => rw [Try.func18] at h; cases h; exact fnOk_of Try.func18 b18 n18
  | 19, _, _, h => rw [Try.func19] at h; cases h; exact fnOk_of Try.func19 b19 n19
  | 20, _, _, h => rw [Try.func20] at h; cases h; exact fnOk_of Try.func20 b20 n20
  | 21, _, _, h => rw [Try.func21] at h; cases h; exact fnOk_of Try.func21 b21 n21
  | 22, _, _, h => rw [Try.func22] at h; cases h; exact fnOk_of Try.func22 b22 n22
  | 23, _, _, h => rw [Try.func23] at h; cases h; exact fnOk_of Try.func23 b23 n23
  | 24, _, _, h => rw [Try.func24] at h; cases h; exact fnOk_of Try.func24 b24 n24
  | 25, _, _, h => rw [Try.func25] at h; cases h; exact fnOk_of Try.func25 b25 n25
  | 26, _, _, h => rw [Try.func26] at h; cases h; exact fnOk_of Try.func26 b26 n26
  | 27, _, _, h => rw [Try.func27] at h; cases h; exact fnOk_of Try.func27 b27 n27
  | 28, _, _, h => rw [Try.func28] at h; cases h; exact fnOk28
  | 29, _, _, h => rw [Try.func29] at h; cases h; exact fnOk_of Try.func29 b29 n29
  | 30, _, _, h => rw [Try.func30] at h; cases h; exact fnOk_of Try.func30 b30 n30
  | 31, _, _, h => rw [Try.func31] at h; cases h; exact fnOk_of Try.func31 b31 n31
  | 32, _, _, h => rw [Try.func32] at h; cases h; exact fnOk_of Try.func32 b32 n32
  | 33, _, _, h => rw [Try.func33] at h; cases h; exact fnOk_of Try.func33 b33 n33
  | 34, _, _, h => rw [Try.func34] at h; cases h; exact fnOk_of Try.func34 b34 n34
  | 35, _, _, h => rw [Try.func35] at h; cases h; exact fnOk_of Try.func35 b35 n35
  | 36, _, _, h => rw [Try.func36] at h; cases h; exact fnOk_of Try.func36 b36 n36
  | 37, _, _, h => rw [Try.func37] at h; cases h; exact fnOk_of Try.func37 b37 n37
  | 38, _, _, h => rw [Try.func38] at h; cases h; exact fnOk_of Try.func38 b38 n38
  | 39, _, _, h => rw [Try.func39] at h; cases h; exact fnOk_of Try.func39 b39 n39
  | 40, _, _, h => rw [Try.func40] at h; cases h; exact fnOk_of Try.func40 b40 n40
  | 41, _, _, h => rw [Try.func41] at h; cases h; exact fnOk_of Try.func41 b41 n41
  | 42, _, _, h => rw [Try.func42] at h; cases h; exact fnOk_of Try.func42 b42 n42
  | 43, _, _, h => rw [Try.func43] at h; cases h; exact fnOk_of Try.func43 b43 n43
  | 44, _, _, h => rw [Try.func44] at h; cases h; exact fnOk_of Try.func44 b44 n44
  | n + 45, _, h2, _ => omega
end Go.En.R40
namespace Go.En
theorem findLoop_ok {T : Tab} {f : Nat} {l : List Nat × Code × Code} : ∀ (c : Code) (k id : Nat), R40.findLoop c k id = some l → bodyOk T f c = true → loopsOk T f c k → bodyOk T f l.2.1 = true ∧ bodyOk T f l.2.2 = true ∧ loopsOk T f l.2.1 0 ∧ loopsOk T f l.2.2 0 := by
  intro c
  induction c with
  | seq a b iha ihb =>
    intro k id h hb hl
    simp only [bodyOk, Bool.and_eq_true] at hb
    simp only [R40.findLoop] at h
    cases e : R40.findLoop a 0 id with
    | some r => rw [e] at h; cases h; exact iha 0 id e hb.1 hl.1
    | none => rw [e] at h; exact ihb 0 id h hb.2 hl.2
  | cond _ a b iha ihb =>
    intro k id h hb hl
    simp only [bodyOk, Bool.and_eq_true] at hb
    simp only [R40.findLoop] at h
    cases e : R40.findLoop a 0 id with
    | some r => rw [e] at h; cases h; exact iha 0 id e hb.1 hl.1
    | none => rw [e] at h; exact ihb 0 id h hb.2 hl.2
  | block j c ih => intro k id h hb hl; exact ih j id h hb hl
  | loop c ih => intro k id h hb hl; exact ih 0 id h hb hl
  | rangeFunc g ps a b _ _ =>
    intro k id h hb hl
    simp only [bodyOk, Bool.and_eq_true] at hb
    simp only [R40.findLoop] at h
    split at h
    · cases h; exact ⟨hb.1, hb.2, hl.2.1, hl.2.2⟩
    · cases h
  | _ => intro k id h; cases h
end Go.En
namespace Go.En.R40
open Go.Proofs

theorem loops_ok (f lid : Nat) (l : List Nat × Code × Code) (h : T.loops f lid = some l) : bodyOk T f l.2.1 = true ∧ bodyOk T f l.2.2 = true ∧ loopsOk T f l.2.1 0 ∧ loopsOk T f l.2.2 0 := by
  have key : ∀ f lid, T.loops f lid = (match f, lid with | 28, 0 => (Try.f28.body).bind (fun c => findLoop c 0 0) | _, _ => none) := fun _ _ => rfl
  rw [key] at h
  split at h
  · simp only [Option.bind_eq_some_iff] at h
    obtain ⟨c, hc, h⟩ := h
    obtain ⟨_, _, h3⟩ := fnOk28
    obtain ⟨h4, h5⟩ := h3 c hc
    exact findLoop_ok c 0 0 h h4 h5
  · cases h

noncomputable def L : LoopTab := ⟨T.loops, fun f => (fs f).map (·.ntmps)⟩

theorem mixed : Try.prog.follows .mixedOrders = true := by kernel_rfl

/-- What the evaluation says of this program's functions is so. -/
theorem R_sound (n f : Nat) (xs : List AV) (h : Hp) (r : AV × Hp) (he : R n f xs h = some r) : CallOk L T.fresh Try.prog f xs h r :=
  (sys_sound T_ok mixed rfl fs_ok loops_ok (fun _ _ _ _ e => by cases e) n).1 f xs h r he
end Go.En.R40
set_option linter.unusedSimpArgs false
namespace Go.En.R40
open Go.Proofs

@[simp] theorem T_info3 : T.info 3 = some ⟨.int .i64, 1, 8, [.int .i64 0]⟩ := rfl
@[simp] theorem T_desc3 : descOf T 3 = some (.int .i64) := rfl
@[simp] theorem T_info4 : T.info 4 = some ⟨.bool, 1, 1, [.bool false]⟩ := rfl
@[simp] theorem T_desc4 : descOf T 4 = some (.bool) := rfl
@[simp] theorem T_info22 : T.info 22 = some ⟨.slice 48, 1, 24, [.nils]⟩ := rfl
@[simp] theorem T_desc22 : descOf T 22 = some (.slice 48) := rfl
@[simp] theorem T_info23 : T.info 23 = some ⟨.slice 3, 1, 24, [.nils]⟩ := rfl
@[simp] theorem T_desc23 : descOf T 23 = some (.slice 3) := rfl
@[simp] theorem T_info26 : T.info 26 = some ⟨.slice 4, 1, 24, [.nils]⟩ := rfl
@[simp] theorem T_desc26 : descOf T 26 = some (.slice 4) := rfl
@[simp] theorem T_info28 : T.info 28 = some ⟨.int .i64, 1, 8, [.int .i64 0]⟩ := rfl
@[simp] theorem T_desc28 : descOf T 28 = some (.int .i64) := rfl
@[simp] theorem T_info62 : T.info 62 = some ⟨.func #[3] #[3] false, 1, 8, [.nilf]⟩ := rfl
@[simp] theorem T_desc62 : descOf T 62 = some (.func #[3] #[3] false) := rfl
@[simp] theorem T_info63 : T.info 63 = some ⟨.func #[71] #[] false, 1, 8, [.nilf]⟩ := rfl
@[simp] theorem T_desc63 : descOf T 63 = some (.func #[71] #[] false) := rfl
@[simp] theorem T_info65 : T.info 65 = some ⟨.pointer 68, 1, 8, [.nilp]⟩ := rfl
@[simp] theorem T_desc65 : descOf T 65 = some (.pointer 68) := rfl
@[simp] theorem T_info66 : T.info 66 = some ⟨.map 3 4, 1, 8, [.nilm]⟩ := rfl
@[simp] theorem T_desc66 : descOf T 66 = some (.map 3 4) := rfl
@[simp] theorem T_info71 : T.info 71 = some ⟨.func #[3] #[4] false, 1, 8, [.nilf]⟩ := rfl
@[simp] theorem T_desc71 : descOf T 71 = some (.func #[3] #[4] false) := rfl
@[simp] theorem T_info25 : T.info 25 = some ⟨.struct #[fld "Items" 22 0 0, fld "Labels" 23 1 24], 2, 48, [.nils, .nils]⟩ := rfl
@[simp] theorem T_desc25 : descOf T 25 = some (.struct #[fld "Items" 22 0 0, fld "Labels" 23 1 24]) := rfl
@[simp] theorem T_info48 : T.info 48 = some ⟨.struct #[fld "Size" 3 0 0, fld "Long" 3 1 8, fld "To" 3 2 16, fld "Low" 3 3 24, fld "High" 3 4 32, fld "LongLow" 3 5 40, fld "LongHigh" 3 6 48], 7, 56, [.int .i64 0, .int .i64 0, .int .i64 0, .int .i64 0, .int .i64 0, .int .i64 0, .int .i64 0]⟩ := rfl
@[simp] theorem T_desc48 : descOf T 48 = some (.struct #[fld "Size" 3 0 0, fld "Long" 3 1 8, fld "To" 3 2 16, fld "Low" 3 3 24, fld "High" 3 4 32, fld "LongLow" 3 5 40, fld "LongHigh" 3 6 48]) := rfl
@[simp] theorem T_info68 : T.info 68 = some ⟨.struct #[fld "l" 23 0 0 "retarget/relax", fld "here" 66 1 24 "retarget/relax"], 2, 32, [.nils, .nilm]⟩ := rfl
@[simp] theorem T_desc68 : descOf T 68 = some (.struct #[fld "l" 23 0 0 "retarget/relax", fld "here" 66 1 24 "retarget/relax"]) := rfl
@[simp] theorem T_elem22 : elemOf T 22 = some ⟨.struct #[fld "Size" 3 0 0, fld "Long" 3 1 8, fld "To" 3 2 16, fld "Low" 3 3 24, fld "High" 3 4 32, fld "LongLow" 3 5 40, fld "LongHigh" 3 6 48], 7, 56, [.int .i64 0, .int .i64 0, .int .i64 0, .int .i64 0, .int .i64 0, .int .i64 0, .int .i64 0]⟩ := rfl
@[simp] theorem T_elem23 : elemOf T 23 = some ⟨.int .i64, 1, 8, [.int .i64 0]⟩ := rfl
@[simp] theorem T_elem26 : elemOf T 26 = some ⟨.bool, 1, 1, [.bool false]⟩ := rfl
@[simp] theorem T_field25_0 : fieldOf T 25 0 = some (0, ⟨.slice 48, 1, 24, [.nils]⟩) := rfl
@[simp] theorem T_field25_1 : fieldOf T 25 1 = some (1, ⟨.slice 3, 1, 24, [.nils]⟩) := rfl
@[simp] theorem T_field48_0 : fieldOf T 48 0 = some (0, ⟨.int .i64, 1, 8, [.int .i64 0]⟩) := rfl
@[simp] theorem T_field48_1 : fieldOf T 48 1 = some (1, ⟨.int .i64, 1, 8, [.int .i64 0]⟩) := rfl
@[simp] theorem T_field48_2 : fieldOf T 48 2 = some (2, ⟨.int .i64, 1, 8, [.int .i64 0]⟩) := rfl
@[simp] theorem T_field48_3 : fieldOf T 48 3 = some (3, ⟨.int .i64, 1, 8, [.int .i64 0]⟩) := rfl
@[simp] theorem T_field48_4 : fieldOf T 48 4 = some (4, ⟨.int .i64, 1, 8, [.int .i64 0]⟩) := rfl
@[simp] theorem T_field48_5 : fieldOf T 48 5 = some (5, ⟨.int .i64, 1, 8, [.int .i64 0]⟩) := rfl
@[simp] theorem T_field48_6 : fieldOf T 48 6 = some (6, ⟨.int .i64, 1, 8, [.int .i64 0]⟩) := rfl
@[simp] theorem T_field68_0 : fieldOf T 68 0 = some (0, ⟨.slice 3, 1, 24, [.nils]⟩) := rfl
@[simp] theorem T_field68_1 : fieldOf T 68 1 = some (1, ⟨.map 3 4, 1, 8, [.nilm]⟩) := rfl
@[simp] theorem fld_name (n : String) (t o b : Nat) (p : String) : (fld n t o b p).name = n := rfl
@[simp] theorem fld_type (n : String) (t o b : Nat) (p : String) : (fld n t o b p).type = t := rfl
@[simp] theorem fld_offset (n : String) (t o b : Nat) (p : String) : (fld n t o b p).offset = o := rfl
@[simp] theorem T_own (f d : Nat) : T.own f d = if f = 28 ∧ d = 5 then 1 else if f = 35 ∧ d = 10 then 1 else 0 := by
  have : T.own f d = (match f, d with | 28, 5 => 1 | 35, 10 => 1 | _, _ => 0) := rfl
  rw [this]; split
  · rfl
  · rfl
  · rename_i h1 h2; rw [if_neg (fun h => h1 h.1 h.2), if_neg (fun h => h2 h.1 h.2)]
@[simp] theorem T_muts (f : Nat) : T.muts f = decide (f = 35) := by
  have : T.muts f = (match f with | 35 => true | _ => false) := rfl
  rw [this]; split <;> simp_all
@[simp] theorem T_fresh (f : Nat) : T.fresh f = decide (f = 28) := by
  have : T.fresh f = (match f with | 28 => true | _ => false) := rfl
  rw [this]; split <;> simp_all
@[simp] theorem T_gives (f : Nat) : T.gives f = decide (f = 40) := by
  have : T.gives f = (match f with | 40 => true | _ => false) := rfl
  rw [this]; split <;> simp_all
def sqs (f r : Nat) : List Nat := match f, r with
    | 43, 1 => [15]
    | 21, 4 => [5]
    | 5, 4 => [8]
    | 5, 5 => [11, 12, 13]
    | 5, 7 => [11, 12, 13]
    | 10, 11 => [8]
    | 10, 16 => [9, 10, 11]
    | 10, 17 => [9, 10, 11]
    | _, _ => []
def lts (f r : Nat) : Option (Nat × Nat × List Nat) := match f, r with
    | 5, 4 => some (3, 1, [0, 1, 2])
    | 10, 11 => some (3, 2, [0, 1, 2])
    | 10, 16 => some (8, 2, [0, 1, 2, 6, 7])
    | 10, 17 => some (8, 2, [0, 1, 2, 6, 7])
    | _, _ => none
attribute [simp] sqs lts
@[simp] theorem T_seqs (f r : Nat) : T.seqs f r = sqs f r := rfl
@[simp] theorem T_late (f r : Nat) : T.late f r = lts f r := rfl
@[simp] theorem T_keep (f b : Nat) : T.keep f b = kp f b := rfl
attribute [simp] kp
theorem R_succ (n f : Nat) (a : List AV) (h : Hp) {fn : Func} (hf : fs f = some fn) : R (n + 1) f a h = enter T (R n) (Y n) n f fn a h := by
  show obind (fs f) _ = _; rw [hf]; rfl
theorem fs3 : fs 3 = some Try.f3 := Try.func3
theorem fs4 : fs 4 = some Try.f4 := Try.func4
theorem fs5 : fs 5 = some Try.f5 := Try.func5
theorem fs6 : fs 6 = some Try.f6 := Try.func6
theorem fs7 : fs 7 = some Try.f7 := Try.func7
theorem fs8 : fs 8 = some Try.f8 := Try.func8
theorem fs9 : fs 9 = some Try.f9 := Try.func9
theorem fs10 : fs 10 = some Try.f10 := Try.func10
theorem fs11 : fs 11 = some Try.f11 := Try.func11
theorem fs12 : fs 12 = some Try.f12 := Try.func12
theorem fs13 : fs 13 = some Try.f13 := Try.func13
theorem fs14 : fs 14 = some Try.f14 := Try.func14
theorem fs15 : fs 15 = some Try.f15 := Try.func15
theorem fs16 : fs 16 = some Try.f16 := Try.func16
theorem fs17 : fs 17 = some Try.f17 := Try.func17
theorem fs18 : fs 18 = some Try.f18 := Try.func18
theorem fs19 : fs 19 = some Try.f19 := Try.func19
theorem fs20 : fs 20 = some Try.f20 := Try.func20
theorem fs21 : fs 21 = some Try.f21 := Try.func21
theorem fs22 : fs 22 = some Try.f22 := Try.func22
theorem fs23 : fs 23 = some Try.f23 := Try.func23
theorem fs24 : fs 24 = some Try.f24 := Try.func24
theorem fs25 : fs 25 = some Try.f25 := Try.func25
theorem fs26 : fs 26 = some Try.f26 := Try.func26
theorem fs27 : fs 27 = some Try.f27 := Try.func27
theorem fs28 : fs 28 = some Try.f28 := Try.func28
theorem fs29 : fs 29 = some Try.f29 := Try.func29
theorem fs30 : fs 30 = some Try.f30 := Try.func30
theorem fs31 : fs 31 = some Try.f31 := Try.func31
theorem fs32 : fs 32 = some Try.f32 := Try.func32
theorem fs33 : fs 33 = some Try.f33 := Try.func33
theorem fs34 : fs 34 = some Try.f34 := Try.func34
theorem fs35 : fs 35 = some Try.f35 := Try.func35
theorem fs36 : fs 36 = some Try.f36 := Try.func36
theorem fs37 : fs 37 = some Try.f37 := Try.func37
theorem fs38 : fs 38 = some Try.f38 := Try.func38
theorem fs39 : fs 39 = some Try.f39 := Try.func39
theorem fs40 : fs 40 = some Try.f40 := Try.func40
theorem fs41 : fs 41 = some Try.f41 := Try.func41
theorem fs42 : fs 42 = some Try.f42 := Try.func42
theorem fs43 : fs 43 = some Try.f43 := Try.func43
theorem fs44 : fs 44 = some Try.f44 := Try.func44
end Go.En.R40
