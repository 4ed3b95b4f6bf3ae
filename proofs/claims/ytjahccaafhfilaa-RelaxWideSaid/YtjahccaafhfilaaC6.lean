/- What relax.Check comes to, and places: the conditions stand in each theorem. -/
import Derived.Test.YtjahccaafhfilaaC5
set_option linter.unusedSimpArgs false
set_option maxRecDepth 100000
set_option maxHeartbeats 4000000
namespace Go.En.R40
open Go.Proofs

def okA (p : Pr) : Nat → Bool
  | 0 => andB (decide ((p.items.length : Int) ≤ 500)) (decide ((p.labels.length : Int) ≤ 500))
  | k + 1 => andB (okA p k) (inB (p.labels[k]?.getD default) 0 p.items.length)
def okB (p : Pr) : Nat → Bool
  | 0 => okA p p.labels.length
  | k + 1 => okB p k && okIt p (p.items[k]?.getD default)
theorem okA_eq (p : Pr) : ∀ k, k ≤ p.labels.length → okA p k = (okA p 0 && (p.labels.take k).all (okLb p)) := by
  intro k
  induction k with
  | zero => intro _; simp
  | succ k ih =>
    intro h
    have hk : k < p.labels.length := h
    have e : okA p (k + 1) = andB (okA p k) (inB (p.labels[k]?.getD default) 0 p.items.length) := rfl
    rw [e, ih (by omega), List.take_succ_eq_append_getElem hk, List.all_append]
    simp [andB, okLb, hk, Bool.and_assoc]
theorem okB_eq (p : Pr) : ∀ k, k ≤ p.items.length → okB p k = (okB p 0 && (p.items.take k).all (okIt p)) := by
  intro k
  induction k with
  | zero => intro _; simp
  | succ k ih =>
    intro h
    have hk : k < p.items.length := h
    have e : okB p (k + 1) = (okB p k && okIt p (p.items[k]?.getD default)) := rfl
    rw [e, ih (by omega), List.take_succ_eq_append_getElem hk, List.all_append]
    simp [hk, Bool.and_assoc]
theorem okB_right (p : Pr) : okB p p.items.length = right p := by
  rw [okB_eq p _ (Nat.le_refl _), okB, okA_eq p _ (Nat.le_refl _)]
  simp only [okA, andB, List.take_length, right, Bool.and_assoc]
  have e1 : decide ((p.items.length : Int) ≤ 500) = decide (p.items.length ≤ 500) := by simp; omega
  have e2 : decide ((p.labels.length : Int) ≤ 500) = decide (p.labels.length ≤ 500) := by simp; omega
  rw [e1, e2]

theorem Check_run (n : Nat) (p : Pr) (h1 : p.items.length ≤ 600) (h2 : p.labels.length ≤ 600) : R (n + 2000) 18 [encP p] [] = some (ai (if right p then 0 else 8), []) := by
  rw [R_succ _ _ _ _ fs18, enter_eq (fn := Try.f18) rfl rfl rfl (Nat.le_of_ble_eq_true rfl)]
  simp
  generalize hr : iter _ _ _ _ _ = r
  have := iter_post p.labels.length (fun k => ⟨[(1, .ref 0 0), (3, ab (okA p k)), (19, .p (ints p.labels)), (20, ai p.labels.length), (21, ai k)], [.box [.p (encIts p), .p (ints p.labels)]]⟩)
      (fun _ r => r = some (.exit 0, ⟨[(1, .ref 0 0), (3, ab (okA p p.labels.length)), (19, .p (ints p.labels)), (20, ai p.labels.length), (21, ai p.labels.length)], [.box [.p (encIts p), .p (ints p.labels)]]⟩)) hr (by omega) (by simp [okA]) (by
        intro k hk K hK
        by_cases h : k < p.labels.length
        · have w1 : IntKind.i64.wrap ((k : Int) + 1) = (k : Int) + 1 := wrap64 (by omega) (by omega)
          have hK := hK h
          simp only [okA] at hK
          cases o : okA p k
          · rw [o] at hK
            simp [h, getD_map, within_run, w1, o]
            simpa [h] using hK
          · rw [o] at hK
            simp [h, getD_map, within_run, w1, o]
            simpa [h] using hK
        · obtain rfl : k = p.labels.length := by omega
          simp)
  clear hr
  subst this
  simp
  generalize hr : iter _ _ _ _ _ = r
  have := iter_post p.items.length (fun k => ⟨[(1, .ref 0 0), (3, ab (okB p k)), (35, .p (encIts p)), (36, ai p.items.length), (37, ai k)], [.box [.p (encIts p), .p (ints p.labels)]]⟩)
      (fun _ r => r = some (.exit 2, ⟨[(1, .ref 0 0), (3, ab (right p)), (35, .p (encIts p)), (36, ai p.items.length), (37, ai p.items.length)], [.box [.p (encIts p), .p (ints p.labels)]]⟩)) hr (by omega) (by simp [okB]) (by
        intro k hk K hK
        by_cases h : k < p.items.length
        · have w1 : IntKind.i64.wrap ((k : Int) + 1) = (k : Int) + 1 := wrap64 (by omega) (by omega)
          have hw : IntKind.i64.wrap ((p.labels.length : Int) - 1) = (p.labels.length : Int) - 1 := wrap64 (by omega) (by omega)
          have hK := hK h
          have e0 : okB p (k + 1) = (okB p k && okIt p p.items[k]) := by simp [okB, h]
          rw [e0] at hK
          cases o : okB p k
          · rw [o, Bool.false_and] at hK
            by_cases h2 : p.items[k].to = -1
            · simp [h, getD_map, within_run, w1, o, h2]
              simpa [h] using hK
            · simp [h, getD_map, within_run, w1, o, h2]
              simpa [h] using hK
          rw [o, Bool.true_and] at hK
          cases h1 : inB p.items[k].size 0 1000
          · have hh : okIt p p.items[k] = false := by simp [okIt, h1]
            rw [hh] at hK
            by_cases h2 : p.items[k].to = -1
            · simp [h, getD_map, within_run, w1, o, h1, h2]
              simpa [h] using hK
            · simp [h, getD_map, within_run, w1, o, h1, h2]
              simpa [h] using hK
          by_cases h2 : p.items[k].to = -1
          · have hh : okIt p p.items[k] = okW p.items[k] := by simp [okIt, h1, h2]
            have hh2 : okW p.items[k] = ((p.items[k].long == 0) && ((p.items[k].low == 0) && ((p.items[k].high == 0) && ((p.items[k].llow == 0) && (p.items[k].lhigh == 0))))) := by
              simp only [okW, andB, Bool.and_assoc]; rfl
            rw [hh, hh2] at hK
            simp [h, getD_map, within_run, w1, o, h1, h2]
            simpa [h] using hK
          · have hh : okIt p p.items[k] = okJ p p.items[k] := by simp [okIt, h1, h2]
            rw [hh] at hK
            cases a0 : inB p.items[k].to 0 ((p.labels.length : Int) - 1)
            · have hj : okJ p p.items[k] = false := by simp [okJ, a0]
              rw [hj] at hK
              simp [h, getD_map, within_run, w1, o, h1, h2, hw, a0]
              simpa [h] using hK
            cases a1 : inB p.items[k].long p.items[k].size 1000
            · have hj : okJ p p.items[k] = false := by simp [okJ, a0, a1]
              rw [hj] at hK
              simp [h, getD_map, within_run, w1, o, h1, h2, hw, a0, a1]
              simpa [h] using hK
            cases a2 : decide (-16777216 ≤ p.items[k].llow)
            · have hj : okJ p p.items[k] = false := by revert a2; simp [okJ, inB, andB]; omega
              rw [hj] at hK
              simp [h, getD_map, within_run, w1, o, h1, h2, hw, a0, a1, a2]
              simpa [h] using hK
            cases a3 : decide (p.items[k].llow ≤ p.items[k].low)
            · have hj : okJ p p.items[k] = false := by revert a2 a3; simp [okJ, inB, andB]; omega
              rw [hj] at hK
              simp [h, getD_map, within_run, w1, o, h1, h2, hw, a0, a1, a2, a3]
              simpa [h] using hK
            cases a4 : decide (p.items[k].low ≤ 0)
            · have hj : okJ p p.items[k] = false := by revert a2 a3 a4; simp [okJ, inB, andB]; omega
              rw [hj] at hK
              simp [h, getD_map, within_run, w1, o, h1, h2, hw, a0, a1, a2, a3, a4]
              simpa [h] using hK
            cases a5 : decide (0 ≤ p.items[k].high)
            · have hj : okJ p p.items[k] = false := by revert a2 a3 a4 a5; simp [okJ, inB, andB]; omega
              rw [hj] at hK
              simp [h, getD_map, within_run, w1, o, h1, h2, hw, a0, a1, a2, a3, a4, a5]
              simpa [h] using hK
            cases a6 : decide (p.items[k].high ≤ p.items[k].lhigh)
            · have hj : okJ p p.items[k] = false := by revert a2 a3 a4 a5 a6; simp [okJ, inB, andB]; omega
              rw [hj] at hK
              simp [h, getD_map, within_run, w1, o, h1, h2, hw, a0, a1, a2, a3, a4, a5, a6]
              simpa [h] using hK
            cases a7 : decide (p.items[k].lhigh ≤ 16777216)
            · have hj : okJ p p.items[k] = false := by revert a2 a3 a4 a5 a6 a7; simp [okJ, inB, andB]; omega
              rw [hj] at hK
              simp [h, getD_map, within_run, w1, o, h1, h2, hw, a0, a1, a2, a3, a4, a5, a6, a7]
              simpa [h] using hK
            have hj : okJ p p.items[k] = true := by
              have := inB_iff.1 a0
              have := inB_iff.1 a1
              simp only [decide_eq_true_eq] at a2 a3 a4 a5 a6 a7
              simp [okJ, a0, a1, inB_iff, andB]; omega
            rw [hj] at hK
            simp [h, getD_map, within_run, w1, o, h1, h2, hw, a0, a1, a2, a3, a4, a5, a6, a7]
            simpa [h] using hK
        · obtain rfl : k = p.items.length := by omega
          simp [okB_right])
  clear hr
  subst this
  cases right p <;> simp
end Go.En.R40
set_option linter.unusedSimpArgs false
set_option maxRecDepth 100000
set_option maxHeartbeats 4000000
namespace Go.En.R40
open Go.Proofs

theorem sums_run (n : Nat) (k : Int) (a b c d : Obj) : R (n + 1) 40 [ai k, .fn 39 [.ref 1 0, .ref 0 0]] [a, b, c, d] = some (.fn 44 [.ref 4 0, .ref 5 0], [a, b, c, d, .box [ai k], .box [.fn 39 [.ref 1 0, .ref 0 0]]]) := by
  rw [R_succ _ _ _ _ fs40, enter_eq (fn := Try.f40) rfl rfl rfl (Nat.le_of_ble_eq_true rfl)]
  simp

theorem size_run (n : Nat) (p : Pr) (long : List Bool) (i : Nat) (h : i < p.items.length) (h2 : i < long.length) (c d e f g j : Obj) :
    R (n + 1) 39 [ai i, .ref 1 0, .ref 0 0] [.box [.p (encIts p), .p (ints p.labels)], .box [.p (bools long)], c, d, e, f, g, j] = some (ai (szB p.items[i] long[i]), [.box [.p (encIts p), .p (ints p.labels)], .box [.p (bools long)], lowO 8 c, lowO 8 d, lowO 8 e, lowO 8 f, lowO 8 g, lowO 8 j]) := by
  rw [R_succ _ _ _ _ fs39, enter_eq (fn := Try.f39) rfl rfl rfl (Nat.le_of_ble_eq_true rfl)]
  cases hh : long[i] <;> simp [h, h2, getD_map, hh, szB]

abbrev tmL (p : Pr) (long : List Bool) : Tm :=
  [(0, encP p), (1, .p (bools long)), (2, .ref 0 0), (3, .ref 1 0), (4, .p .nils), (5, .ref 2 0), (8, .fn 39 [.ref 1 0, .ref 0 0]), (6, .fn 39 [.ref 1 0, .ref 0 0]),
   (9, .ref 0 0), (10, .p (encIts p)), (11, ai p.items.length), (12, .fn 39 [.ref 1 0, .ref 0 0]), (13, .fn 44 [.ref 4 0, .ref 5 0])]
abbrev rowL (p : Pr) (long : List Bool) (k : Nat) : List PV := (List.range k).map fun j => i64 (pos p long j)
abbrev hpL (p : Pr) (long : List Bool) (k : Nat) : Hp :=
  [.box [.p (encIts p), .p (ints p.labels)], .box [.p (bools long)], .box [.arr 3 k 0 k], .arr k 1 false (rowL p long k), .box [ai p.items.length], .box [.fn 39 [.ref 1 0, .ref 0 0]], .loop .ready 28 0 (tmL p long)]
theorem rowL_succ (p : Pr) (long : List Bool) (k : Nat) : rowL p long (k + 1) = rowL p long k ++ [i64 (pos p long k)] := by simp [rowL, List.range_succ]

theorem Y_succ (n id : Nat) (a : List AV) (h : Hp) : Y (n + 1) id a h = yieldF T fs (R n) (Y n) n id a h := rfl
/-- A round, in steps. -/
def rnd2 (id m : Nat) (r : Option (Ex × St)) : Option (Bool × Hp) := askk r fun e s => if m ≤ s.hp.length then roundEnd id e s.hp else none
def rndB (x : X) (id m : Nat) (b : Code) (tm : Tm) (r : Option Hp) : Option (Bool × Hp) := obind r fun h => rnd2 id m (evc x b 0 ⟨tm, h⟩)
@[simp] theorem rndB_some (x : X) (id m : Nat) (b : Code) (tm : Tm) (h : Hp) : rndB x id m b tm (some h) = rnd2 id m (evc x b 0 ⟨tm, h⟩) := rfl
def rnd1 (x : X) (id m : Nat) (b : Code) (r : Option (Ex × St)) : Option (Bool × Hp) := askk r fun e s => match e with
  | .nor => rndB x id m b s.tm (roundBegin id s.hp)
  | _ => none
@[simp] theorem rnd2_some (id m : Nat) (e : Ex) (s : St) : rnd2 id m (some (e, s)) = if m ≤ s.hp.length then roundEnd id e s.hp else none := rfl
@[simp] theorem rnd1_nor (x : X) (id m : Nat) (b : Code) (s : St) : rnd1 x id m b (some (.nor, s)) = rndB x id m b s.tm (roundBegin id s.hp) := rfl
theorem round_eq (x : X) (id : Nat) (xs : List AV) (h : Hp) (tm : Tm) (l : List Nat × Code × Code) : round x id xs h tm l =
    if xs.length = l.1.length ∧ l.1.all (fun p => decide (p < x.nt)) = true then rnd1 x id h.length l.2.2 (evc x l.2.1 0 ⟨putAll tm l.1 xs, h⟩) else none := by
  simp only [round]
  split
  · match evc x l.2.1 0 ⟨putAll tm l.1 xs, h⟩ with
    | none => rfl
    | some (.nor, s) => rfl
    | some (.exit _, s) => rfl
    | some (.ret, s) => rfl
  · rfl
theorem yieldF_eq {n id : Nat} {a : List AV} {h : Hp} {f lid : Nat} {tm : Tm} {l : List Nat × Code × Code} {fn : Func} {nt : Nat} (h1 : h.at id = .loop .ready f lid tm) (h2 : T.loops f lid = some l) (h3 : fs f = some fn) (h4 : fn.ntmps = nt) :
    yieldF T fs (R n) (Y n) n id a h = round ⟨T, R n, Y n, f, nt, n, true⟩ id a h tm l := by
  subst h4
  simp only [yieldF, h1, h2, h3, obind_some]
attribute [simp] putAll
@[simp] theorem roundBegin_eq (id : Nat) (h : Hp) : roundBegin id h = match h.at id with | .loop .ready f lid tm => some (h.set id (.loop .busy f lid tm)) | _ => none := rfl
theorem roundEnd_nor (id : Nat) (h : Hp) : roundEnd id .nor h = match h.at id with | .loop .busy f lid tm => some (true, h.set id (.loop .ready f lid tm)) | _ => none := by
  simp only [roundEnd]; rfl
attribute [simp] roundEnd_nor
theorem T_loops28 : T.loops 28 0 = (Try.f28.body).bind fun c => findLoop c 0 0 := rfl

theorem yield_run (n : Nat) (p : Pr) (long : List Bool) (k : Nat) (hk : k ≤ 600) : Y (n + 1) 6 [ai (pos p long k)] (hpL p long k) = some (true, hpL p long (k + 1) ++ [.arr 0 1 false [i64 (pos p long k)]]) := by
  have b1 : (k + 1) * 8 ≤ 1099511627776 := by omega
  have b2 : k + 1 ≤ 1099511627776 := by omega
  have b3 : k ≤ 1099511627775 := by omega
  rw [Y_succ, yieldF_eq (l := _) rfl (T_loops28.trans rfl) fs28 rfl, round_eq]
  simp [b1, b2, b3, rowL_succ]

theorem sums1_run (n : Nat) (p : Pr) (long : List Bool) (hp : Ok p) (hl : long.length = p.items.length) : R (n + 2005) 44 [.yl 6, .ref 4 0, .ref 5 0] (hpL p long 0) = some (.tup [], hpL p long (p.items.length + 1)) := by
  have hn := hp.n
  rw [R_succ _ _ _ _ fs44, enter_eq (fn := Try.f44) rfl rfl rfl (Nat.le_of_ble_eq_true rfl)]
  simp
  generalize hr : iter _ _ _ _ _ = r
  have := iter_post p.items.length (fun k => ⟨[(0, .yl 6), (2, .ref 5 0), (4, ai (pos p long k)), (6, ai p.items.length), (7, ai k)], hpL p long k⟩)
      (fun _ r => r = some (.exit 0, ⟨[(0, .yl 6), (2, .ref 5 0), (4, ai (pos p long p.items.length)), (6, ai p.items.length), (7, ai p.items.length)], hpL p long p.items.length⟩)) hr (by omega) (by simp [pos]) (by
        intro k hk K hK
        by_cases h : k < p.items.length
        · have hka : k < long.length := by omega
          have hb := pos_bound hp long k hk
          have hs := hp.size k h
          have hg := hp.long k h
          have e : pos p long (k + 1) = pos p long k + szB p.items[k] long[k] := by simp [pos, h, hka]
          have w1 : IntKind.i64.wrap ((k : Int) + 1) = (k : Int) + 1 := wrap64 (by omega) (by omega)
          have w2 : IntKind.i64.wrap (pos p long k + szB p.items[k] long[k]) = pos p long k + szB p.items[k] long[k] := by
            unfold szB; split <;> exact wrap64 (by omega) (by omega)
          have hy := yield_run (n + 2003) p long k (by omega)
          simp only [hpL, List.cons_append, List.nil_append] at hy
          have hz := fun n c d e f g j => size_run n p long k h hka c d e f g j
          simp [h, hl, hy, hz, obind_some, w1, w2]
          simpa [e] using hK h
        · obtain rfl : k = p.items.length := by omega
          simp)
  clear hr
  subst this
  have hy := yield_run (n + 2003) p long p.items.length (by omega)
  simp only [hpL, List.cons_append, List.nil_append] at hy
  simp [hy, obind_some]

theorem places_run (n : Nat) (p : Pr) (long : List Bool) (hp : Ok p) (hl : long.length = p.items.length) : R (n + 2010) 28 [encP p, .p (bools long)] [] = some (.p (ints (laid p long)), []) := by
  have hn := hp.n
  have hs := sums1_run (n + 4) p long hp hl
  simp only [hpL, rowL, List.range_zero, List.map_nil] at hs
  rw [R_succ _ _ _ _ fs28, enter_eq (fn := Try.f28) rfl rfl rfl (Nat.le_of_ble_eq_true rfl)]
  simp [sums_run]
  simp [hs]
  first
    | (simp [laid]; done)
    | (rw [List.take_of_length_le (by simp)]; simp [laid]; done)
    | rfl
end Go.En.R40
