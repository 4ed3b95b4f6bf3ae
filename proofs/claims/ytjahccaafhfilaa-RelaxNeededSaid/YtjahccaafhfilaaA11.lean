/- What the laws RelaxReaches and RelaxNeeded come to: the conditions stand in each theorem. -/
import Derived.Test.YtjahccaafhfilaaA10
set_option linter.unusedSimpArgs false
set_option maxRecDepth 100000
set_option maxHeartbeats 4000000
namespace Go.En.R40
open Go.Proofs

theorem Reaches_law (n : Nat) (hn3 : 301000 ≤ n) (p : Pr) : R (n + 1) 6 [encP p] [] = some (ab true, []) := by
  have fG := Great_at n (by omega)
  have fC := Check_at n (by omega)
  have fP := Places_at n (by omega)
  have fS := Stable_at n (by omega)
  have fB := SameBools_at n (by omega)
  have fBn := SameBools_nil_at n (by omega)
  have fA := alive_at n (by omega)
  have fSb := Solve_bad_at n (by omega)
  have fRb := refSolve_bad_at n (by omega)
  rw [R_succ _ _ _ _ fs6, enter_eq (fn := Try.f6) rfl rfl rfl (Nat.le_of_ble_eq_true rfl)]
  cases hg : great p
  case true => simp [fG, hg, fA]
  obtain ⟨h1, h2⟩ := great_le hg
  cases hr : right p
  · simp [fG, hg, fA, fSb, h1, h2, hr]
  obtain ⟨L, hL⟩ := has_least hr
  have hs1 := Solve_at n (by omega) p L hr hL
  have hs2 := refSolve_at n (by omega) p L hr hL
  have hp := ok_of hr
  have hn := hp.n
  have hLl := hL.ch.len
  have hl6 : L.length ≤ 600 := by omega
  by_cases hb : firstI (badL p L) 0 p.items.length = -1
  case neg => simp [fG, hg, fA, hs1, h1, h2, hr, hL, solveR, hb]
  have hbad := firstI_none (f := badL p L) p.items.length 0 |>.1 hb
  have hcL := choiceE_eq hr hL.ch
  have hll := laid_len p L
  have w0 : IntKind.i64.wrap ((p.items.length : Int) + 1) = (p.items.length : Int) + 1 := wrap64 (by omega) (by omega)
  simp [fG, hg, fA, hs1, h1, h2, hr, hL, solveR, hb, fP, placesR, hcL, hl6, hll, w0, hLl]
  generalize hq : iter _ _ _ _ _ = r
  have := iter_post p.items.length (fun k => ⟨[(1, .ref 0 0), (2, ab false), (3, ab true), (4, .p (bools L)), (6, .p (ints (laid p L))), (8, ai k)], [boxP p]⟩)
      (fun _ r => r = some (.exit 0, ⟨[(1, .ref 0 0), (2, ab false), (3, ab true), (4, .p (bools L)), (6, .p (ints (laid p L))), (8, ai p.items.length)], [boxP p]⟩)) hq (by omega) (by simp) (by
        intro k hk K hK
        by_cases h : k < p.items.length
        · have hK := hK h
          have hka : k < L.length := by omega
          have w1 : IntKind.i64.wrap ((k : Int) + 1) = (k : Int) + 1 := wrap64 (by omega) (by omega)
          by_cases ht : p.items[k].to < 0
          · simp [h, getD_map, ht, w1]
            simpa using hK
          have hj : p.items[k].to ≠ -1 := by omega
          have hto := hp.to k h hj
          have hlt : p.items[k].to.toNat < p.labels.length := by omega
          have hlab := hp.lab _ hlt
          have a1 : ¬ ((p.labels.length : Int) ≤ p.items[k].to) := by omega
          have a2 : ¬ (p.labels[p.items[k].to.toNat] < 0) := by omega
          have a3 : ¬ ((p.items.length : Int) + 1 ≤ p.labels[p.items[k].to.toNat]) := by omega
          have a4 : p.labels[p.items[k].to.toNat] < (p.items.length : Int) + 1 := by omega
          have i1 : (p.labels[p.items[k].to.toNat]).toNat < (laid p L).length := by omega
          have i2 : k + 1 < (laid p L).length := by omega
          have c2 : (k : Int) + 1 < (p.items.length : Int) + 1 := by omega
          have c3 : (0 : Int) ≤ (k : Int) + 1 := by omega
          have c4 : ((k : Int) + 1).toNat = k + 1 := by omega
          have b1 := pos_bound hp L (p.labels[p.items[k].to.toNat]).toNat (by omega)
          have b2 := pos_bound hp L (k + 1) (by omega)
          have w2 : IntKind.i64.wrap (pos p L (p.labels[p.items[k].to.toNat]).toNat - pos p L (k + 1)) = pos p L (p.labels[p.items[k].to.toNat]).toNat - pos p L (k + 1) := wrap64 (by omega) (by omega)
          have e1 : (laid p L)[(p.labels[p.items[k].to.toNat]).toNat]? = some (pos p L (p.labels[p.items[k].to.toNat]).toNat) := by rw [List.getElem?_eq_getElem i1, laid_get]
          have e2 : (laid p L)[k + 1]? = some (pos p L (k + 1)) := by rw [List.getElem?_eq_getElem i2, laid_get]
          have hd : dist p L k = pos p L (p.labels[p.items[k].to.toNat]).toNat - pos p L (k + 1) := by simp [dist, h, hlt]
          have h0 : 0 ≤ p.items[k].to := by omega
          cases hlk : L[k]
          · have hf := hL.sta k h
            have hin : inB (dist p L k) p.items[k].low p.items[k].high = true := by
              simpa [failB, h, hka, hlk, h0] using hf
            rw [inB_iff, hd] at hin
            have d1 : ¬ (pos p L (p.labels[p.items[k].to.toNat]).toNat - pos p L (k + 1) < p.items[k].low) := by omega
            have d2 : ¬ (p.items[k].high < pos p L (p.labels[p.items[k].to.toNat]).toNat - pos p L (k + 1)) := by omega
            simp [h, hka, getD_map, ht, w1, hlt, a1, a2, a3, a4, e1, e2, laid_get, c2, c3, c4, hll, w2, hlk, d1, d2, h0, hto.2.1, hlab.1]
            simpa using hK
          · have hf := hbad k (Nat.zero_le _) (by omega)
            have hin : inB (dist p L k) p.items[k].llow p.items[k].lhigh = true := by
              simpa [badL, lg, h, hka, hlk] using hf
            rw [inB_iff, hd] at hin
            have d1 : ¬ (pos p L (p.labels[p.items[k].to.toNat]).toNat - pos p L (k + 1) < p.items[k].llow) := by omega
            have d2 : ¬ (p.items[k].lhigh < pos p L (p.labels[p.items[k].to.toNat]).toNat - pos p L (k + 1)) := by omega
            simp [h, hka, getD_map, ht, w1, hlt, a1, a2, a3, a4, e1, e2, laid_get, c2, c3, c4, hll, w2, hlk, d1, d2, h0, hto.2.1, hlab.1]
            simpa using hK
        · obtain rfl : k = p.items.length := by omega
          simp)
  clear hq
  subst this
  simp

/-- A long form that is not needed would not be there. -/
theorem needed {p : Pr} {L : List Bool} (hL : Least p L) {w : Nat} (hw : w < p.items.length) (hlw : lg L w = true) : Ch p (L.set w false) ∧ stableB p (L.set w false) = false := by
  have hl := hL.ch.len
  have hset : ∀ k, lg (L.set w false) k = if k = w then false else lg L k := by
    intro k
    simp only [lg, List.getElem?_set]
    by_cases h : w = k
    · subst h; simp [hl, hw]
    · simp [h, Ne.symm h]
  have hc : Ch p (L.set w false) := by
    refine ⟨by simp [hl], fun k hk hlk => ?_⟩
    have := hset k
    simp only [lg] at this
    rw [this] at hlk
    split at hlk
    · cases hlk
    · exact hL.ch.jump k hk hlk
  refine ⟨hc, ?_⟩
  cases hs : stableB p (L.set w false) with
  | false => rfl
  | true =>
    have := hL.le _ hc (stable_iff.1 hs) w hw hlw
    rw [hset w, if_pos rfl] at this
    cases this

theorem Needed_law (n : Nat) (hn3 : 301000 ≤ n) (p : Pr) (which : Int) : R (n + 1) 9 [encP p, ai which] [] = some (ab true, []) := by
  have fG := Great_at n (by omega)
  have fC := Check_at n (by omega)
  have fP := Places_at n (by omega)
  have fS := Stable_at n (by omega)
  have fB := SameBools_at n (by omega)
  have fBn := SameBools_nil_at n (by omega)
  have fA := alive_at n (by omega)
  have fSb := Solve_bad_at n (by omega)
  have fRb := refSolve_bad_at n (by omega)
  rw [R_succ _ _ _ _ fs9, enter_eq (fn := Try.f9) rfl rfl rfl (Nat.le_of_ble_eq_true rfl)]
  cases hg : great p
  case true => simp [fG, hg, fA]
  obtain ⟨h1, h2⟩ := great_le hg
  cases hr : right p
  · by_cases hw : which < 0 <;> by_cases hw2 : 0 ≤ which <;> simp [fG, hg, fA, fSb, h1, h2, hr, hw, hw2]
  obtain ⟨L, hL⟩ := has_least hr
  have hs1 := Solve_at n (by omega) p L hr hL
  have hs2 := refSolve_at n (by omega) p L hr hL
  have hp := ok_of hr
  have hn := hp.n
  have hLl := hL.ch.len
  have hl6 : L.length ≤ 600 := by omega
  by_cases hb : firstI (badL p L) 0 p.items.length = -1
  case neg => by_cases hw : which < 0 <;> by_cases hw2 : 0 ≤ which <;> simp [fG, hg, fA, hs1, h1, h2, hr, hL, solveR, hb, hw, hw2]
  by_cases hw : which < 0
  · simp [fG, hg, fA, hs1, h1, h2, hr, hL, solveR, hb, hw]
  obtain ⟨w, rfl⟩ : ∃ w : Nat, which = (w : Int) := ⟨which.toNat, by omega⟩
  by_cases hw2 : w < p.items.length
  case neg =>
    have a1 : (p.items.length : Int) ≤ (w : Int) := by omega
    have a2 : p.items.length ≤ w := by omega
    simp [fG, hg, fA, hs1, h1, h2, hr, hL, solveR, hb, hLl, a1, a2]
  have hwl : w < L.length := by omega
  cases hlw : L[w]
  · simp [fG, hg, fA, hs1, h1, h2, hr, hL, solveR, hb, hLl, hw2, hwl, hlw, getD_map]
  have key := fun (o : Obj) (z : List PV) => app_row PV.bool [o, .arr 0 1 false []] 1 1 ⟨.bool, 1, 1, z⟩ L rfl (by omega) rfl (by simp) (by omega) (fun _ => rfl)
  obtain ⟨hc, hs⟩ := needed hL hw2 (by simp [lg, hwl, hlw])
  have hcE := choiceE_eq hr hc
  have hst := fS p (L.set w false) h1 h2 (by simp; omega)
  have ht : ((L.map PV.bool).set w (.bool false)).take p.items.length = (L.map PV.bool).set w (.bool false) := by rw [List.take_of_length_le (by simp [hLl])]
  simp only [bools, List.map_set, stableR, hcE, hs] at hst
  have hw3 : ¬ (p.items.length ≤ w) := by omega
  simp [-appR_arr, key, hw, hw3, fG, hg, fA, hs1, h1, h2, hr, hL, solveR, hb, hLl, hw2, hwl, hlw, getD_map, hst, ht]
end Go.En.R40
