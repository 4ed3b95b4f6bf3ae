/- What Places and Stable come to, and the law RelaxTells: the conditions stand in each theorem. -/
import Derived.Test.YtjahccaafhfilaaC6
import Derived.Test.YtjahccaafhfilaaC3
set_option linter.unusedSimpArgs false
set_option maxRecDepth 100000
set_option maxHeartbeats 4000000
namespace Go.En.R40
open Go.Proofs

theorem reaches_run (n : Nat) (p : Pr) (long : List Bool) (k : Nat) (lg : Bool) (hp : Ok p) (h : k < p.items.length) (hj : p.items[k].to ≠ -1) :
    R (n + 2) 31 [encP p, .p (ints (laid p long)), ai k, ab lg] [] = some (ab (if lg = true then inB (dist p long k) p.items[k].llow p.items[k].lhigh else inB (dist p long k) p.items[k].low p.items[k].high), []) := by
  have hn := hp.n
  have ht := hp.to k h hj
  have hlt : p.items[k].to.toNat < p.labels.length := by omega
  have hlab := hp.lab _ hlt
  have hll := laid_len p long
  have i1 : (p.labels[p.items[k].to.toNat]).toNat < (laid p long).length := by omega
  have i2 : k + 1 < (laid p long).length := by omega
  have w1 : IntKind.i64.wrap ((k : Int) + 1) = (k : Int) + 1 := wrap64 (by omega) (by omega)
  have b1 := pos_bound hp long (p.labels[p.items[k].to.toNat]).toNat (by omega)
  have b2 := pos_bound hp long (k + 1) (by omega)
  have w2 : IntKind.i64.wrap (pos p long (p.labels[p.items[k].to.toNat]).toNat - pos p long (k + 1)) = pos p long (p.labels[p.items[k].to.toNat]).toNat - pos p long (k + 1) := wrap64 (by omega) (by omega)
  have c1 : (p.labels[p.items[k].to.toNat]) < ((laid p long).length : Int) := by omega
  have c2 : (k : Int) + 1 < ((laid p long).length : Int) := by omega
  have c3 : (0 : Int) ≤ (k : Int) + 1 := by omega
  have c4 : ((k : Int) + 1).toNat = k + 1 := by omega
  rw [R_succ _ _ _ _ fs31, enter_eq (fn := Try.f31) rfl rfl rfl (Nat.le_of_ble_eq_true rfl)]
  cases lg <;> simp [h, getD_map, hlt, ht.1, ht.2.1, hlab.1, c1, c2, c3, c4, i1, i2, laid_get, w1, w2, dist, within_run]

def okC (p : Pr) (long : List Bool) : Nat → Bool
  | 0 => decide (long.length = p.items.length)
  | k + 1 => andB (okC p long k) (!badC (long[k]?.getD default, p.items[k]?.getD default))
theorem okC_false {p : Pr} {long : List Bool} (h : long.length ≠ p.items.length) : ∀ k, okC p long k = false := by
  intro k
  induction k with
  | zero => simp [okC, h]
  | succ k ih => simp [okC, ih]
theorem okC_eq {p : Pr} {long : List Bool} (h : long.length = p.items.length) : ∀ k, k ≤ long.length → okC p long k = !((long.zip p.items).take k).any badC := by
  intro k
  induction k with
  | zero => intro _; simp [okC, h]
  | succ k ih =>
    intro hk
    have h1 : k < long.length := hk
    have h2 : k < p.items.length := by omega
    have h3 : k < (long.zip p.items).length := by simp; omega
    have e : okC p long (k + 1) = andB (okC p long k) (!badC (long[k]?.getD default, p.items[k]?.getD default)) := rfl
    rw [e, ih (by omega), List.take_succ_eq_append_getElem h3, List.any_append]
    simp [h1, h2, andB]
theorem okC_all {p : Pr} {long : List Bool} : okC p long long.length = (decide (long.length = p.items.length) && !(long.zip p.items).any badC) := by
  by_cases h : long.length = p.items.length
  · rw [okC_eq h _ (Nat.le_refl _), List.take_of_length_le (by simp; omega)]; simp [h]
  · rw [okC_false h]; simp [h]

theorem check_run (n : Nat) (p : Pr) (long : List Bool) (h1 : p.items.length ≤ 600) (h2 : p.labels.length ≤ 600) (h3 : long.length ≤ 600) : R (n + 2001) 27 [encP p, .p (bools long)] [] = some (ai (choiceE p long), []) := by
  rw [R_succ _ _ _ _ fs27, enter_eq (fn := Try.f27) rfl rfl rfl (Nat.le_of_ble_eq_true rfl)]
  cases hr : right p
  · simp [Check_run, h1, h2, hr, choiceE]
  simp [Check_run, h1, h2, hr, choiceE]
  generalize hr : iter _ _ _ _ _ = r
  have := iter_post long.length (fun k => ⟨[(2, .ref 0 0), (6, ab (okC p long k)), (20, .p (bools long)), (21, ai long.length), (22, ai k)], [.box [.p (encIts p), .p (ints p.labels)]]⟩)
      (fun _ r => r = some (.exit 0, ⟨[(2, .ref 0 0), (6, ab (okC p long long.length)), (20, .p (bools long)), (21, ai long.length), (22, ai long.length)], [.box [.p (encIts p), .p (ints p.labels)]]⟩)) hr (by omega) (by simp [okC, Int.ofNat_inj]) (by
        intro k hk K hK
        by_cases h : k < long.length
        · have w1 : IntKind.i64.wrap ((k : Int) + 1) = (k : Int) + 1 := wrap64 (by omega) (by omega)
          have hK := hK h
          simp only [okC] at hK
          cases o : okC p long k
          · rw [o] at hK
            simp [h, getD_map, w1, o]
            simpa [h] using hK
          · have hl : long.length = p.items.length := by
              by_cases e : long.length = p.items.length
              · exact e
              · rw [okC_false e] at o; cases o
            have hi : k < p.items.length := by omega
            rw [o] at hK
            cases hh : long[k]
            · simp [h, hi, getD_map, w1, o, hh]
              simpa [h, hi, hh, badC] using hK
            · simp [h, hi, getD_map, w1, o, hh]
              simpa [h, hi, hh, badC] using hK
        · obtain rfl : k = long.length := by omega
          simp)
  clear hr
  subst this
  rw [okC_all]
  by_cases hl : long.length = p.items.length
  · cases hb : (long.zip p.items).any badC <;> simp [hl]
  · simp [hl]

abbrev tup2 (v w : AV) : AV := .tup [v, w]
abbrev nilR : AV := .p .nils
def placesR (p : Pr) (long : List Bool) : AV := if choiceE p long = 0 then tup2 (.p (ints (laid p long))) (ai 0) else tup2 nilR (ai (choiceE p long))
theorem choice_ok {p : Pr} {long : List Bool} (h : choiceE p long = 0) : Ok p ∧ long.length = p.items.length ∧ (long.zip p.items).any badC = false := by
  unfold choiceE at h
  split at h
  · rename_i hr
    split at h
    · rename_i hl
      split at h
      · cases h
      · rename_i hb; exact ⟨ok_of hr, hl, by simpa using hb⟩
    · cases h
  · cases h

theorem Places_run (n : Nat) (p : Pr) (long : List Bool) (h1 : p.items.length ≤ 600) (h2 : p.labels.length ≤ 600) (h3 : long.length ≤ 600) : R (n + 2020) 13 [encP p, .p (bools long)] [] = some (placesR p long, []) := by
  rw [R_succ _ _ _ _ fs13, enter_eq (fn := Try.f13) rfl rfl rfl (Nat.le_of_ble_eq_true rfl)]
  by_cases hc : choiceE p long = 0
  · obtain ⟨hp, hl, _⟩ := choice_ok hc
    simp [check_run, h1, h2, h3, hc, places_run, hp, hl, placesR]
  · simp [check_run, h1, h2, h3, hc, placesR]
theorem refPlaces_run (n : Nat) (p : Pr) (long : List Bool) (h1 : p.items.length ≤ 600) (h2 : p.labels.length ≤ 600) : R (n + 2020) 14 [encP p, .p (bools long)] [] = some (placesR p long, []) := by
  rw [R_succ _ _ _ _ fs14, enter_eq (fn := Try.f14) rfl rfl rfl (Nat.le_of_ble_eq_true rfl)]
  by_cases hc : choiceE p long = 0
  · obtain ⟨hp, hl, _⟩ := choice_ok hc
    simp [choice_run, h1, h2, hc, Laid_run, hp, hl, placesR]
  · simp [choice_run, h1, h2, hc, placesR]

/-- Is a choice stable? -/
def stableB (p : Pr) (long : List Bool) : Bool := decide (failsI p long < 0)
def stableR (p : Pr) (long : List Bool) : AV := if choiceE p long = 0 then tup2 (ab (stableB p long)) (ai 0) else tup2 (ab false) (ai (choiceE p long))
theorem refStable_run (n : Nat) (p : Pr) (long : List Bool) (h1 : p.items.length ≤ 600) (h2 : p.labels.length ≤ 600) : R (n + 2020) 16 [encP p, .p (bools long)] [] = some (stableR p long, []) := by
  rw [R_succ _ _ _ _ fs16, enter_eq (fn := Try.f16) rfl rfl rfl (Nat.le_of_ble_eq_true rfl)]
  by_cases hc : choiceE p long = 0
  · obtain ⟨hp, hl, _⟩ := choice_ok hc
    simp [choice_run, h1, h2, hc, fails_run, hp, hl, stableR, stableB]
  · simp [choice_run, h1, h2, hc, stableR]

theorem firstI_lt {f : Nat → Bool} : ∀ n k, firstI f k n < 0 ↔ firstI f k n = -1 := by
  intro n
  induction n with
  | zero => intro k; simp [firstI]
  | succ n ih =>
    intro k
    simp only [firstI]
    split
    · omega
    · exact ih _
theorem Stable_run (n : Nat) (p : Pr) (long : List Bool) (h1 : p.items.length ≤ 600) (h2 : p.labels.length ≤ 600) (h3 : long.length ≤ 600) : R (n + 2020) 15 [encP p, .p (bools long)] [] = some (stableR p long, []) := by
  rw [R_succ _ _ _ _ fs15, enter_eq (fn := Try.f15) rfl rfl rfl (Nat.le_of_ble_eq_true rfl)]
  by_cases hc : choiceE p long = 0
  case neg => simp [check_run, h1, h2, h3, hc, stableR]
  obtain ⟨hp, hl, _⟩ := choice_ok hc
  have hn := hp.n
  simp [check_run, h1, h2, h3, hc, places_run, hp, hl, stableR]
  generalize hr : iter _ _ _ _ _ = r
  have := iter_post p.items.length (fun k => ⟨[(1, .p (bools long)), (2, .ref 0 0), (4, ab false), (5, ai 0), (7, .p (ints (laid p long))), (20, .p (encIts p)), (21, ai p.items.length), (22, ai k)], [.box [.p (encIts p), .p (ints p.labels)]]⟩)
      (fun k r => if firstI (failB p long) k (p.items.length - k) = -1 then r = some (.exit 0, ⟨[(1, .p (bools long)), (2, .ref 0 0), (4, ab false), (5, ai 0), (7, .p (ints (laid p long))), (20, .p (encIts p)), (21, ai p.items.length), (22, ai p.items.length)], [.box [.p (encIts p), .p (ints p.labels)]]⟩)
        else ∃ j, r = some (.ret, ⟨[(1, .p (bools long)), (2, .ref 0 0), (4, ab false), (5, ai 0), (7, .p (ints (laid p long))), (20, .p (encIts p)), (21, ai p.items.length), (22, ai j)], [.box [.p (encIts p), .p (ints p.labels)]]⟩)) hr (by omega) (by simp) (by
        intro k hk K hK
        by_cases h : k < p.items.length
        · have hka : k < long.length := by omega
          have w1 : IntKind.i64.wrap ((k : Int) + 1) = (k : Int) + 1 := wrap64 (by omega) (by omega)
          have e0 : p.items.length - k = (p.items.length - (k + 1)) + 1 := by omega
          rw [e0]
          have hK := hK h
          simp only [firstI]
          have hneg : ¬ ((k : Int) = -1) := by omega
          by_cases ht : 0 ≤ p.items[k].to
          · have hj : p.items[k].to ≠ -1 := by omega
            cases hlk : long[k]
            · cases hd : inB (dist p long k) p.items[k].low p.items[k].high
              · have hf : failB p long k = true := by simp [failB, h, hka, ht, hlk, hd]
                simp [h, hka, getD_map, ht, hlk, reaches_run, hp, hj, hd, hf, hneg]
              · have hf : failB p long k = false := by simp [failB, h, hka, ht, hlk, hd]
                simp [h, hka, getD_map, ht, hlk, reaches_run, hp, hj, hd, hf, w1]
                simpa using hK
            · have hf : failB p long k = false := by simp [failB, h, hka, ht, hlk]
              simp [h, hka, getD_map, ht, hlk, reaches_run, hp, hj, hf, w1]
              simpa using hK
          · have hf : failB p long k = false := by simp [failB, h, ht]
            cases hlk : long[k]
            · simp [h, hka, getD_map, ht, hlk, hf, w1]
              simpa using hK
            · simp [h, hka, getD_map, ht, hlk, hf, w1]
              simpa using hK
        · obtain rfl : k = p.items.length := by omega
          simp [firstI])
  clear hr
  simp only [Nat.sub_zero] at this
  have e1 : firstI (failB p long) 0 p.items.length = failsI p long := rfl
  split at this
  · rename_i h; rw [e1] at h; subst this; simp [stableB, h]
  · rename_i h; rw [e1] at h; obtain ⟨j, rfl⟩ := this
    have hs : stableB p long = false := by
      have := firstI_lt (f := failB p long) p.items.length 0
      rw [e1] at this
      simp [stableB]; omega
    simp [hs]
end Go.En.R40
set_option linter.unusedSimpArgs false
set_option maxRecDepth 100000
set_option maxHeartbeats 4000000
namespace Go.En.R40
open Go.Proofs

theorem great_le {p : Pr} (h : great p = false) : p.items.length ≤ 600 ∧ p.labels.length ≤ 600 := by
  simp [great, orB, andB] at h
  omega

/-- All of a list, put behind an empty row. -/
theorem app_row {α : Type} (f : α → PV) (h : Hp) (id sz : Nat) (e : TI) (l : List α) (hid : h[id]? = some (.arr 0 sz false [])) (hs : 0 < sz) (he : e.size = sz) (hb : e.bytes ≤ 1000) (hl : l.length ≤ 1000000) (hf : ∀ a, (f a).cells.length = sz) :
    appR h id 0 0 0 e (l.map f) (.arr 0 sz false []) = some (h.set id (.arr l.length sz false (l.map f)), .arr id l.length 0 l.length) := by
  have hm : l.length * e.bytes ≤ 1000000 * 1000 := Nat.mul_le_mul hl hb
  simp only [appR]
  rw [if_pos ⟨trivial, hs, he.symm, by simp; omega, by simp; omega, by
    intro y hy
    obtain ⟨a, _, rfl⟩ := List.mem_map.1 hy
    rw [he]; exact hf a⟩]
  cases l with
  | nil =>
    simp
    obtain ⟨h1, h2⟩ := List.getElem?_eq_some_iff.1 hid
    rw [← h2]; simp
  | cons a l => simp

theorem SameInts_nil (n : Nat) : R (n + 2000) 17 [nilR, nilR] [] = some (ab true, []) := by
  rw [R_succ _ _ _ _ fs17, enter_eq (fn := Try.f17) rfl rfl rfl (Nat.le_of_ble_eq_true rfl)]
  simp
  generalize hr : iter _ _ _ _ _ = r
  have := iter_post 0 (fun _ => ⟨[(0, nilR), (1, nilR), (4, ab false), (5, ai 0)], []⟩)
      (fun k r => r = some (.exit 0, ⟨[(0, nilR), (1, nilR), (4, ab false), (5, ai 0)], []⟩)) hr (by omega) (by simp) (by
        intro k hk K hK
        simp)
  clear hr
  subst this
  simp
theorem SameBools_nil (n : Nat) : R (n + 2000) 20 [nilR, nilR] [] = some (ab true, []) := by
  rw [R_succ _ _ _ _ fs20, enter_eq (fn := Try.f20) rfl rfl rfl (Nat.le_of_ble_eq_true rfl)]
  simp
  generalize hr : iter _ _ _ _ _ = r
  have := iter_post 0 (fun _ => ⟨[(0, nilR), (1, nilR), (4, ab false), (5, ai 0)], []⟩)
      (fun k r => r = some (.exit 0, ⟨[(0, nilR), (1, nilR), (4, ab false), (5, ai 0)], []⟩)) hr (by omega) (by simp) (by
        intro k hk K hK
        simp)
  clear hr
  subst this
  simp

theorem Tells_run (n : Nat) (p : Pr) (long : List Bool) : R (n + 3000) 3 [encP p, .p (bools long)] [] = some (ab true, []) := by
  rw [R_succ _ _ _ _ fs3, enter_eq (fn := Try.f3) rfl rfl rfl (Nat.le_of_ble_eq_true rfl)]
  cases hg : great p
  case true => simp [Great_run, hg]
  obtain ⟨h1, h2⟩ := great_le hg
  by_cases h3 : 600 < (long.length : Int)
  · simp [Great_run, hg, h3]
  have h3' : long.length ≤ 600 := by omega
  have hlo : long.length ≤ 1000 := by omega
  have key := fun (o : Obj) (z : List PV) => app_row PV.bool [o, .arr 0 1 false []] 1 1 ⟨.bool, 1, 1, z⟩ long rfl (by omega) rfl (by simp) (by omega) (fun _ => rfl)
  by_cases hc : choiceE p long = 0
  · obtain ⟨hp, hl, _⟩ := choice_ok hc
    have hn := hp.n
    have hll : (laid p long).length ≤ 1000 := by rw [laid_len]; omega
    simp [-appR_arr, key, Great_run, hg, h3, h1, h2, h3', Places_run, refPlaces_run, placesR, Stable_run, refStable_run, stableR, hc, SameInts_run, hll, hlo, Check_run, refCheck_run, SameBools_run]
  · simp [-appR_arr, key, Great_run, hg, h3, h1, h2, h3', Places_run, refPlaces_run, placesR, Stable_run, refStable_run, stableR, hc, SameInts_nil, hlo, Check_run, refCheck_run, SameBools_run]
end Go.En.R40
