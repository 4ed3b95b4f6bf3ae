/- What the functions of layer 40 come to: the conditions stand in each theorem. -/
import Derived.Test.YtjahccaafhfilaaC4
set_option linter.unusedSimpArgs false
set_option maxRecDepth 100000
set_option maxHeartbeats 4000000
namespace Go.En.R40
open Go.Proofs

structure It where
  size : Int
  long : Int
  to : Int
  low : Int
  high : Int
  llow : Int
  lhigh : Int
  deriving Inhabited
structure Pr where
  items : List It
  labels : List Int

abbrev i64 (n : Int) : PV := .int .i64 n
abbrev ai (n : Int) : AV := .p (.int .i64 n)
abbrev ab (b : Bool) : AV := .p (.bool b)
abbrev ints (l : List Int) : PV := .sl (l.map i64)
abbrev bools (l : List Bool) : PV := .sl (l.map PV.bool)
@[reducible] def encIt (x : It) : PV := .agg [i64 x.size, i64 x.long, i64 x.to, i64 x.low, i64 x.high, i64 x.llow, i64 x.lhigh]
abbrev encIts (p : Pr) : PV := .sl (p.items.map encIt)
abbrev encP (p : Pr) : AV := .agg [.p (encIts p), .p (ints p.labels)]

/-- A number within bounds. -/
def inB (n a b : Int) : Bool := andB (decide (a ≤ n)) (decide (n ≤ b))
theorem inB_iff {n a b : Int} : inB n a b = true ↔ a ≤ n ∧ n ≤ b := by simp [inB, andB]
theorem In_run (n : Nat) (a b c : Int) : R (n + 1) 36 [ai a, ai b, ai c] [] = some (ab (inB a b c), []) := by
  rw [R_succ _ _ _ _ fs36, enter_eq (fn := Try.f36) rfl rfl rfl (Nat.le_of_ble_eq_true rfl)]
  simp [inB]
theorem within_run (n : Nat) (a b c : Int) : R (n + 1) 33 [ai a, ai b, ai c] [] = some (ab (inB a b c), []) := by
  rw [R_succ _ _ _ _ fs33, enter_eq (fn := Try.f33) rfl rfl rfl (Nat.le_of_ble_eq_true rfl)]
  simp [inB]

theorem SameInts_run (n : Nat) (a b : List Int) (ha : a.length ≤ 1000) (hb : b.length ≤ 1000) : R (n + 2000) 17 [.p (ints a), .p (ints b)] [] = some (ab (decide (a = b)), []) := by
  rw [R_succ _ _ _ _ fs17, enter_eq (fn := Try.f17) rfl rfl rfl (Nat.le_of_ble_eq_true rfl)]
  by_cases hl : a.length = b.length
  · simp [hl]
    generalize hr : iter _ _ _ _ _ = r
    have := iter_post b.length (fun k => ⟨[(0, .p (ints a)), (1, .p (ints b)), (4, ab false), (5, ai k)], []⟩)
      (fun k r => if a.drop k = b.drop k then r = some (.exit 0, ⟨[(0, .p (ints a)), (1, .p (ints b)), (4, ab false), (5, ai b.length)], []⟩) else
        ∃ j, r = some (.ret, ⟨[(0, .p (ints a)), (1, .p (ints b)), (4, ab false), (5, ai j)], []⟩)) hr (by omega) (by simp) (by
        intro k hk K hK
        by_cases h : k < b.length
        · have hka : k < a.length := by omega
          have e := drop_iff hka h
          by_cases hh : a[k] = b[k]
          · simp [h, hl, getD_map, hka, hh, e]
            rw [wrap64 (by omega) (by omega)]
            simpa using hK h
          · simp [h, hl, getD_map, hka, hh, e]
        · obtain rfl : k = b.length := by omega
          simp [hl])
    clear hr
    simp at this
    split at this
    · rename_i e; simp [this, e]
    · rename_i e; obtain ⟨j, rfl⟩ := this; simp [e]
  · have : a ≠ b := fun h => hl (by rw [h])
    simp [hl, this, Int.ofNat_inj]

theorem SameBools_run (n : Nat) (a b : List Bool) (ha : a.length ≤ 1000) (hb : b.length ≤ 1000) : R (n + 2000) 20 [.p (bools a), .p (bools b)] [] = some (ab (decide (a = b)), []) := by
  rw [R_succ _ _ _ _ fs20, enter_eq (fn := Try.f20) rfl rfl rfl (Nat.le_of_ble_eq_true rfl)]
  by_cases hl : a.length = b.length
  · simp [hl]
    generalize hr : iter _ _ _ _ _ = r
    have := iter_post b.length (fun k => ⟨[(0, .p (bools a)), (1, .p (bools b)), (4, ab false), (5, ai k)], []⟩)
      (fun k r => if a.drop k = b.drop k then r = some (.exit 0, ⟨[(0, .p (bools a)), (1, .p (bools b)), (4, ab false), (5, ai b.length)], []⟩) else
        ∃ j, r = some (.ret, ⟨[(0, .p (bools a)), (1, .p (bools b)), (4, ab false), (5, ai j)], []⟩)) hr (by omega) (by simp) (by
        intro k hk K hK
        by_cases h : k < b.length
        · have hka : k < a.length := by omega
          have e := drop_iff hka h
          by_cases hh : a[k] = b[k]
          · simp [h, hl, getD_map, hka, hh, e]
            rw [wrap64 (by omega) (by omega)]
            simpa using hK h
          · simp [h, hl, getD_map, hka, hh, e]
        · obtain rfl : k = b.length := by omega
          simp [hl])
    clear hr
    simp at this
    split at this
    · rename_i e; simp [this, e]
    · rename_i e; obtain ⟨j, rfl⟩ := this; simp [e]
  · have : a ≠ b := fun h => hl (by rw [h])
    simp [hl, this, Int.ofNat_inj]

def great (p : Pr) : Bool := orB (orB (orB (andB (decide (60 < (p.items.length : Int))) (decide ((p.items.length : Int) ≤ 500))) (decide (510 < (p.items.length : Int)))) (andB (decide (60 < (p.labels.length : Int))) (decide ((p.labels.length : Int) ≤ 500)))) (decide (510 < (p.labels.length : Int)))
theorem Great_run (n : Nat) (p : Pr) : R (n + 1) 12 [encP p] [] = some (ab (great p), []) := by
  rw [R_succ _ _ _ _ fs12, enter_eq (fn := Try.f12) rfl rfl rfl (Nat.le_of_ble_eq_true rfl)]
  simp (contextual := true) [great]

def okW (x : It) : Bool := andB (andB (andB (andB (decide (x.long = 0)) (decide (x.low = 0))) (decide (x.high = 0))) (decide (x.llow = 0))) (decide (x.lhigh = 0))
def okJ (p : Pr) (x : It) : Bool := andB (andB (andB (andB (andB (inB x.to 0 ((p.labels.length : Int) - 1)) (inB x.long x.size 1000)) (inB x.llow (-16777216) x.low)) (inB x.low (-16777216) 0)) (inB x.high 0 16777216)) (inB x.lhigh x.high 16777216)
def okIt (p : Pr) (x : It) : Bool := inB x.size 0 1000 && if x.to = -1 then okW x else okJ p x
def okLb (p : Pr) (l : Int) : Bool := inB l 0 (p.items.length : Int)
def right (p : Pr) : Bool := (decide (p.items.length ≤ 500) && decide (p.labels.length ≤ 500)) && (p.labels.all (okLb p) && p.items.all (okIt p))

theorem Right_run (n : Nat) (p : Pr) (h1 : p.items.length ≤ 600) (h2 : p.labels.length ≤ 600) : R (n + 2000) 34 [encP p] [] = some (ab (right p), []) := by
  rw [R_succ _ _ _ _ fs34, enter_eq (fn := Try.f34) rfl rfl rfl (Nat.le_of_ble_eq_true rfl)]
  by_cases hs : 500 < (p.items.length : Int)
  · have : right p = false := by simp [right]; intro h; omega
    simp [hs, this]
  by_cases hs2 : 500 < (p.labels.length : Int)
  · have : right p = false := by simp [right]; intro h h'; omega
    simp [hs, hs2, this]
  have hi : p.items.length ≤ 500 := by omega
  have hl : p.labels.length ≤ 500 := by omega
  simp [hs, hs2]
  generalize hr : iter _ _ _ _ _ = r
  have := iter_post p.labels.length (fun k => ⟨[(1, .ref 0 0), (2, ab false), (3, ai k)], [.box [.p (encIts p), .p (ints p.labels)]]⟩)
      (fun k r => if (p.labels.drop k).all (okLb p) = true then r = some (.exit 0, ⟨[(1, .ref 0 0), (2, ab false), (3, ai p.labels.length)], [.box [.p (encIts p), .p (ints p.labels)]]⟩) else
        ∃ j, r = some (.ret, ⟨[(1, .ref 0 0), (2, ab false), (3, ai j)], [.box [.p (encIts p), .p (ints p.labels)]]⟩)) hr (by omega) (by simp) (by
        intro k hk K hK
        by_cases h : k < p.labels.length
        · have e : (p.labels.drop k).all (okLb p) = (okLb p p.labels[k] && (p.labels.drop (k + 1)).all (okLb p)) := by
            rw [List.drop_eq_getElem_cons h, List.all_cons]
          cases hh : okLb p p.labels[k]
          · have hh2 : inB p.labels[k] 0 p.items.length = false := hh
            simp [h, getD_map, e, hh, hh2, In_run]
          · have hh2 : inB p.labels[k] 0 p.items.length = true := hh
            simp only [e, hh, Bool.true_and]
            simp [h, getD_map, hh2, In_run]
            rw [wrap64 (by omega) (by omega)]
            simpa using hK h
        · obtain rfl : k = p.labels.length := by omega
          simp)
  clear hr
  simp only [List.drop_zero] at this
  split at this
  case isFalse h =>
    obtain ⟨j, rfl⟩ := this
    have : right p = false := by simp only [right, h]; simp
    simp [this]
  rename_i hlab
  subst this
  simp
  generalize hr : iter _ _ _ _ _ = r
  have := iter_post p.items.length (fun k => ⟨[(1, .ref 0 0), (2, ab false), (4, ai k)], [.box [.p (encIts p), .p (ints p.labels)]]⟩)
      (fun k r => if (p.items.drop k).all (okIt p) = true then r = some (.exit 2, ⟨[(1, .ref 0 0), (2, ab false), (4, ai p.items.length)], [.box [.p (encIts p), .p (ints p.labels)]]⟩) else
        ∃ j, r = some (.ret, ⟨[(1, .ref 0 0), (2, ab false), (4, ai j)], [.box [.p (encIts p), .p (ints p.labels)]]⟩)) hr (by omega) (by simp) (by
        intro k hk K hK
        by_cases h : k < p.items.length
        · have e : (p.items.drop k).all (okIt p) = (okIt p p.items[k] && (p.items.drop (k + 1)).all (okIt p)) := by
            rw [List.drop_eq_getElem_cons h, List.all_cons]
          cases h1 : inB p.items[k].size 0 1000
          · have hh : okIt p p.items[k] = false := by simp [okIt, h1]
            simp [h, getD_map, e, hh, h1, In_run]
          by_cases h2 : p.items[k].to = -1
          · have hh : okIt p p.items[k] = okW p.items[k] := by simp [okIt, h1, h2]
            simp only [e, hh]
            cases h3 : okW p.items[k]
            · have h4 := h3
              simp only [okW] at h4
              simp [h, getD_map, h1, h2, In_run, h4]
            · have h4 := h3
              simp only [okW] at h4
              simp only [Bool.true_and]
              simp [h, getD_map, h1, h2, In_run, h4]
              rw [wrap64 (by omega) (by omega)]
              simpa using hK h
          · have hh : okIt p p.items[k] = okJ p p.items[k] := by simp [okIt, h1, h2]
            simp only [e, hh]
            have hw : IntKind.i64.wrap ((p.labels.length : Int) - 1) = (p.labels.length : Int) - 1 := wrap64 (by omega) (by omega)
            cases a0 : inB p.items[k].to 0 ((p.labels.length : Int) - 1)
            · simp [h, okJ, getD_map, h1, h2, In_run, hw, a0]
            cases a1 : inB p.items[k].long p.items[k].size 1000
            · simp [h, okJ, getD_map, h1, h2, In_run, hw, a0, a1]
            cases a2 : inB p.items[k].llow (-16777216) p.items[k].low
            · simp [h, okJ, getD_map, h1, h2, In_run, hw, a0, a1, a2]
            cases a3 : inB p.items[k].low (-16777216) 0
            · simp [h, okJ, getD_map, h1, h2, In_run, hw, a0, a1, a2, a3]
            cases a4 : inB p.items[k].high 0 16777216
            · simp [h, okJ, getD_map, h1, h2, In_run, hw, a0, a1, a2, a3, a4]
            cases a5 : inB p.items[k].lhigh p.items[k].high 16777216
            · simp [h, okJ, getD_map, h1, h2, In_run, hw, a0, a1, a2, a3, a4, a5]
            have hj : okJ p p.items[k] = true := by simp [okJ, a0, a1, a2, a3, a4, a5]
            simp only [hj, Bool.true_and]
            simp [h, getD_map, h1, h2, In_run, hw, a0, a1, a2, a3, a4, a5]
            rw [wrap64 (by omega) (by omega)]
            simpa using hK h
        · obtain rfl : k = p.items.length := by omega
          simp)
  clear hr
  simp only [List.drop_zero] at this
  split at this
  case isFalse h =>
    obtain ⟨j, rfl⟩ := this
    have : right p = false := by simp only [right, h]; simp
    simp [this]
  rename_i hit
  subst this
  have : right p = true := by simp only [right, hlab, hit]; simp [hi, hl]
  simp [this]

theorem refCheck_run (n : Nat) (p : Pr) (h1 : p.items.length ≤ 600) (h2 : p.labels.length ≤ 600) : R (n + 2001) 19 [encP p] [] = some (ai (if right p then 0 else 8), []) := by
  rw [R_succ _ _ _ _ fs19, enter_eq (fn := Try.f19) rfl rfl rfl (Nat.le_of_ble_eq_true rfl)]
  cases h : right p <;> simp [Right_run, h1, h2, h]
end Go.En.R40
set_option linter.unusedSimpArgs false
set_option maxRecDepth 100000
set_option maxHeartbeats 4000000
namespace Go.En.R40
open Go.Proofs

/-- What a valid program is. -/
structure Ok (p : Pr) : Prop where
  n : p.items.length ≤ 500
  m : p.labels.length ≤ 500
  lab : ∀ k (h : k < p.labels.length), 0 ≤ p.labels[k] ∧ p.labels[k] ≤ (p.items.length : Int)
  size : ∀ k (h : k < p.items.length), 0 ≤ p.items[k].size ∧ p.items[k].size ≤ 1000
  long : ∀ k (h : k < p.items.length), 0 ≤ p.items[k].long ∧ p.items[k].long ≤ 1000
  to : ∀ k (h : k < p.items.length), p.items[k].to ≠ -1 → 0 ≤ p.items[k].to ∧ p.items[k].to < (p.labels.length : Int) ∧ p.items[k].size ≤ p.items[k].long ∧
    -16777216 ≤ p.items[k].llow ∧ p.items[k].llow ≤ p.items[k].low ∧ p.items[k].low ≤ 0 ∧ 0 ≤ p.items[k].high ∧ p.items[k].high ≤ p.items[k].lhigh ∧ p.items[k].lhigh ≤ 16777216
  word : ∀ k (h : k < p.items.length), p.items[k].to = -1 → p.items[k].long = 0 ∧ p.items[k].low = 0 ∧ p.items[k].high = 0 ∧ p.items[k].llow = 0 ∧ p.items[k].lhigh = 0
theorem ok_of {p : Pr} (h : right p = true) : Ok p := by
  simp only [right, Bool.and_eq_true, decide_eq_true_eq, List.all_eq_true] at h
  obtain ⟨⟨h1, h2⟩, h3, h4⟩ := h
  have hx : ∀ k (h : k < p.items.length), okIt p p.items[k] = true := fun k h => h4 _ (List.getElem_mem h)
  refine ⟨h1, h2, fun k h => ?_, fun k h => ?_, fun k h => ?_, fun k h hn => ?_, fun k h hn => ?_⟩
  · exact inB_iff.1 (h3 _ (List.getElem_mem h))
  · have := hx k h
    simp only [okIt, Bool.and_eq_true] at this
    exact inB_iff.1 this.1
  · have := hx k h
    simp only [okIt, Bool.and_eq_true] at this
    obtain ⟨a, b⟩ := this
    have a := inB_iff.1 a
    split at b
    · simp [okW, andB] at b; omega
    · simp [okJ, andB, inB] at b; omega
  · have := hx k h
    simp only [okIt, Bool.and_eq_true] at this
    obtain ⟨a, b⟩ := this
    rw [if_neg hn] at b
    simp [okJ, andB, inB] at b; omega
  · have := hx k h
    simp only [okIt, Bool.and_eq_true] at this
    obtain ⟨a, b⟩ := this
    rw [if_pos hn] at b
    simp [okW, andB] at b; omega

/-- A long form where there is no jump. -/
def badC (x : Bool × It) : Bool := andB x.1 (decide (x.2.to = -1))
def choiceE (p : Pr) (long : List Bool) : Int := if right p = true then if long.length = p.items.length then if (long.zip p.items).any badC = true then 2 else 0 else 2 else 8

theorem choice_run (n : Nat) (p : Pr) (long : List Bool) (h1 : p.items.length ≤ 600) (h2 : p.labels.length ≤ 600) : R (n + 2001) 29 [encP p, .p (bools long)] [] = some (ai (choiceE p long), []) := by
  rw [R_succ _ _ _ _ fs29, enter_eq (fn := Try.f29) rfl rfl rfl (Nat.le_of_ble_eq_true rfl)]
  cases hr : right p
  · simp [Right_run, h1, h2, hr, choiceE]
  by_cases hl : long.length = p.items.length
  case neg => simp [Right_run, h1, h2, hr, choiceE, hl, Int.ofNat_inj]
  simp [Right_run, h1, h2, hr, choiceE, hl]
  generalize hr : iter _ _ _ _ _ = r
  have hz : (long.zip p.items).length = p.items.length := by simp [hl]
  have := iter_post p.items.length (fun k => ⟨[(1, .p (bools long)), (2, .ref 0 0), (4, ai 0), (5, ai k)], [.box [.p (encIts p), .p (ints p.labels)]]⟩)
      (fun k r => if ((long.zip p.items).drop k).any badC = true then ∃ j, r = some (.ret, ⟨[(1, .p (bools long)), (2, .ref 0 0), (4, ai 2), (5, ai j)], [.box [.p (encIts p), .p (ints p.labels)]]⟩)
        else r = some (.exit 0, ⟨[(1, .p (bools long)), (2, .ref 0 0), (4, ai 0), (5, ai p.items.length)], [.box [.p (encIts p), .p (ints p.labels)]]⟩)) hr (by omega) (by simp) (by
        intro k hk K hK
        by_cases h : k < p.items.length
        · have hka : k < long.length := by omega
          have e : ((long.zip p.items).drop k).any badC = (badC (long[k], p.items[k]) || ((long.zip p.items).drop (k + 1)).any badC) := by
            rw [List.drop_eq_getElem_cons (by omega), List.any_cons, List.getElem_zip]
          cases hh : badC (long[k], p.items[k])
          · have hh2 := hh
            simp only [badC] at hh2
            simp only [e, hh, Bool.false_or]
            simp [h, hl, hka, getD_map, hh2]
            rw [wrap64 (by omega) (by omega)]
            simpa using hK h
          · have hh2 := hh
            simp only [badC] at hh2
            simp [h, hl, hka, getD_map, hh2, e, hh]
        · obtain rfl : k = p.items.length := by omega
          have e : ((long.zip p.items).drop p.items.length).any badC = false := by rw [List.drop_eq_nil_of_le (by omega)]; rfl
          simp [e, hl])
  clear hr
  simp only [List.drop_zero] at this
  split at this
  · rename_i h; obtain ⟨j, rfl⟩ := this; simp only [h]; simp
  · rename_i h; subst this; simp only [Bool.not_eq_true] at h; simp only [h]; simp

def szB (x : It) (b : Bool) : Int := if b = true then x.long else x.size
/-- The place of an item. -/
def pos (p : Pr) (long : List Bool) : Nat → Int
  | 0 => 0
  | k + 1 => pos p long k + szB (p.items[k]?.getD default) (long[k]?.getD default)
def laid (p : Pr) (long : List Bool) : List Int := (List.range (p.items.length + 1)).map (pos p long)
theorem pos_bound {p : Pr} (hp : Ok p) (long : List Bool) : ∀ k, k ≤ p.items.length → 0 ≤ pos p long k ∧ pos p long k ≤ 1000 * k := by
  intro k
  induction k with
  | zero => intro _; simp [pos]
  | succ k ih =>
    intro hk
    have hk' : k < p.items.length := by omega
    have := ih (by omega)
    have h1 := hp.size k hk'
    have h2 := hp.long k hk'
    simp only [pos, szB, List.getElem?_eq_getElem hk', Option.getD_some]
    split <;> omega

theorem Laid_run (n : Nat) (p : Pr) (long : List Bool) (hp : Ok p) (hl : long.length = p.items.length) : R (n + 2000) 30 [encP p, .p (bools long)] [] = some (.p (ints (laid p long)), []) := by
  have hn := hp.n
  rw [R_succ _ _ _ _ fs30, enter_eq (fn := Try.f30) rfl rfl rfl (Nat.le_of_ble_eq_true rfl)]
  simp
  generalize hr : iter _ _ _ _ _ = r
  have := iter_post p.items.length (fun k => ⟨[(1, .p (bools long)), (2, .ref 0 0), (5, .arr 1 k 0 (k + 1)), (6, ai k)], [.box [.p (encIts p), .p (ints p.labels)], .arr k 1 false ((List.range (k + 1)).map fun j => i64 (pos p long j))]⟩)
      (fun _ r => r = some (.exit 0, ⟨[(1, .p (bools long)), (2, .ref 0 0), (5, .arr 1 p.items.length 0 (p.items.length + 1)), (6, ai p.items.length)], [.box [.p (encIts p), .p (ints p.labels)], .arr p.items.length 1 false ((List.range (p.items.length + 1)).map fun j => i64 (pos p long j))]⟩)) hr (by omega) (by simp [List.range_succ, pos]) (by
        intro k hk K hK
        by_cases h : k < p.items.length
        · have hka : k < long.length := by omega
          have hb := pos_bound hp long k hk
          have hs := hp.size k h
          have hg := hp.long k h
          have hk1 : (k : Int) < (k : Int) + 1 := by omega
          have b1 : (k + 1 + 1) * 8 ≤ 1099511627776 := by omega
          have b2 : k ≤ 1099511627774 := by omega
          have w1 : IntKind.i64.wrap ((k : Int) + 1) = (k : Int) + 1 := wrap64 (by omega) (by omega)
          cases hh : long[k]
          · have e : pos p long (k + 1) = pos p long k + p.items[k].size := by simp [pos, szB, h, hka, hh]
            have w2 : IntKind.i64.wrap (pos p long k + p.items[k].size) = pos p long k + p.items[k].size := wrap64 (by omega) (by omega)
            simp [h, hl, hka, getD_map, hh, hk1, w1, w2, b1, b2]
            have := hK h
            rw [List.range_succ (n := k + 1), List.map_append] at this
            simpa [e] using this
          · have e : pos p long (k + 1) = pos p long k + p.items[k].long := by simp [pos, szB, h, hka, hh]
            have w2 : IntKind.i64.wrap (pos p long k + p.items[k].long) = pos p long k + p.items[k].long := wrap64 (by omega) (by omega)
            simp [h, hl, hka, getD_map, hh, hk1, w1, w2, b1, b2]
            have := hK h
            rw [List.range_succ (n := k + 1), List.map_append] at this
            simpa [e] using this
        · obtain rfl : k = p.items.length := by omega
          simp [hl])
  clear hr
  subst this
  first
    | (simp [laid]; done)
    | (simp [laid]; rw [List.take_of_length_le (by simp)]; rfl)

theorem laid_len (p : Pr) (long : List Bool) : (laid p long).length = p.items.length + 1 := by simp [laid]
theorem laid_get (p : Pr) (long : List Bool) (k : Nat) (h : k < (laid p long).length) : (laid p long)[k] = pos p long k := by simp [laid]

/-- The distance of a jump. -/
def dist (p : Pr) (long : List Bool) (k : Nat) : Int := pos p long (p.labels[(p.items[k]?.getD default).to.toNat]?.getD default).toNat - pos p long (k + 1)
theorem Dist_run (n : Nat) (p : Pr) (long : List Bool) (k : Nat) (hp : Ok p) (h : k < p.items.length) (hj : p.items[k].to ≠ -1) :
    R (n + 1) 37 [encP p, .p (ints (laid p long)), ai k] [] = some (ai (dist p long k), []) := by
  have hn := hp.n
  have ht := hp.to k h hj
  have hlt : p.items[k].to.toNat < p.labels.length := by omega
  have hlab := hp.lab _ hlt
  have hll := laid_len p long
  have i1 : (p.labels[p.items[k].to.toNat]).toNat < (laid p long).length := by omega
  have i2 : k + 1 < (laid p long).length := by omega
  have w1 : IntKind.i64.wrap ((k : Int) + 1) = (k : Int) + 1 := wrap64 (by omega) (by omega)
  have b1 := pos_bound hp long (p.labels[p.items[k].to.toNat]).toNat (by omega)
  have b2 := pos_bound hp long (k + 1) (by omega)
  have w2 : IntKind.i64.wrap (pos p long (p.labels[p.items[k].to.toNat]).toNat - pos p long (k + 1)) = pos p long (p.labels[p.items[k].to.toNat]).toNat - pos p long (k + 1) := wrap64 (by omega) (by omega)
  have c1 : (p.labels[p.items[k].to.toNat]) < ((laid p long).length : Int) := by omega
  have c2 : (k : Int) + 1 < ((laid p long).length : Int) := by omega
  have c3 : (0 : Int) ≤ (k : Int) + 1 := by omega
  have c4 : ((k : Int) + 1).toNat = k + 1 := by omega
  rw [R_succ _ _ _ _ fs37, enter_eq (fn := Try.f37) rfl rfl rfl (Nat.le_of_ble_eq_true rfl)]
  simp [h, getD_map, hlt, ht.1, ht.2.1, hlab.1, c1, c2, c3, c4, i1, i2, laid_get, w1, w2, dist]

/-- A jump in its short form that does not reach. -/
def failB (p : Pr) (long : List Bool) (k : Nat) : Bool :=
  andB (andB (decide (0 ≤ (p.items[k]?.getD default).to)) (!(long[k]?.getD default))) (!inB (dist p long k) (p.items[k]?.getD default).low (p.items[k]?.getD default).high)
/-- The first index from k on (of so many) that has a property, or -1. -/
def firstI (f : Nat → Bool) : Nat → Nat → Int
  | _, 0 => -1
  | k, n + 1 => if f k = true then (k : Int) else firstI f (k + 1) n
def failsI (p : Pr) (long : List Bool) : Int := firstI (failB p long) 0 p.items.length
theorem fails_run (n : Nat) (p : Pr) (long : List Bool) (hp : Ok p) (hl : long.length = p.items.length) : R (n + 2001) 32 [encP p, .p (bools long)] [] = some (ai (failsI p long), []) := by
  have hn := hp.n
  rw [R_succ _ _ _ _ fs32, enter_eq (fn := Try.f32) rfl rfl rfl (Nat.le_of_ble_eq_true rfl)]
  simp [Laid_run, hp, hl]
  generalize hr : iter _ _ _ _ _ = r
  have := iter_post p.items.length (fun k => ⟨[(1, .p (bools long)), (2, .ref 0 0), (4, ai 0), (5, .p (ints (laid p long))), (6, ai k)], [.box [.p (encIts p), .p (ints p.labels)]]⟩)
      (fun k r => if firstI (failB p long) k (p.items.length - k) = -1 then r = some (.exit 0, ⟨[(1, .p (bools long)), (2, .ref 0 0), (4, ai 0), (5, .p (ints (laid p long))), (6, ai p.items.length)], [.box [.p (encIts p), .p (ints p.labels)]]⟩)
        else ∃ j, r = some (.ret, ⟨[(1, .p (bools long)), (2, .ref 0 0), (4, ai (firstI (failB p long) k (p.items.length - k))), (5, .p (ints (laid p long))), (6, ai j)], [.box [.p (encIts p), .p (ints p.labels)]]⟩)) hr (by omega) (by simp) (by
        intro k hk K hK
        by_cases h : k < p.items.length
        · have hka : k < long.length := by omega
          have w1 : IntKind.i64.wrap ((k : Int) + 1) = (k : Int) + 1 := wrap64 (by omega) (by omega)
          have e0 : p.items.length - k = (p.items.length - (k + 1)) + 1 := by omega
          rw [e0]
          have hK := hK h
          simp only [firstI]
          by_cases ht : 0 ≤ p.items[k].to
          · have hj : p.items[k].to ≠ -1 := by omega
            cases hlk : long[k]
            · cases hd : inB (dist p long k) p.items[k].low p.items[k].high
              · have hf : failB p long k = true := by simp [failB, h, hka, ht, hlk, hd]
                simp [h, hka, getD_map, ht, hlk, Dist_run, hp, hj, In_run, hd, hf]
              · have hf : failB p long k = false := by simp [failB, h, hka, ht, hlk, hd]
                simp [h, hka, getD_map, ht, hlk, Dist_run, hp, hj, In_run, hd, hf, w1]
                simpa using hK
            · have hf : failB p long k = false := by simp [failB, h, hka, ht, hlk]
              simp [h, hka, getD_map, ht, hlk, Dist_run, hp, hj, In_run, hf, w1]
              simpa using hK
          · have hf : failB p long k = false := by simp [failB, h, ht]
            cases hlk : long[k]
            · simp [h, hka, getD_map, ht, hlk, hf, w1]
              simpa using hK
            · simp [h, hka, getD_map, ht, hlk, hf, w1]
              simpa using hK
        · obtain rfl : k = p.items.length := by omega
          simp [firstI])
  clear hr
  simp only [Nat.sub_zero] at this
  have e1 : firstI (failB p long) 0 p.items.length = failsI p long := rfl
  rw [e1] at this
  split at this
  · rename_i h; subst this; rw [h]; simp
  · obtain ⟨j, rfl⟩ := this; simp
end Go.En.R40
