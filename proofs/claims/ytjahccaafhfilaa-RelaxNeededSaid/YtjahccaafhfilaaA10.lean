/- What the laws RelaxPlaces and RelaxLeast come to: the conditions stand in each theorem. -/
import Derived.Test.YtjahccaafhfilaaA9
set_option linter.unusedSimpArgs false
set_option maxRecDepth 100000
set_option maxHeartbeats 4000000
namespace Go.En.R40
open Go.Proofs

theorem choiceE_eq {p : Pr} {L : List Bool} (hr : right p = true) (h : Ch p L) : choiceE p L = 0 := by
  unfold choiceE
  rw [if_pos hr, if_pos h.len]
  rw [if_neg]
  intro ha
  rw [List.any_eq_true] at ha
  obtain ⟨x, hx, hb⟩ := ha
  obtain ⟨k, hk, rfl⟩ := List.mem_iff_getElem.1 hx
  have hk1 : k < L.length := by simp at hk; omega
  have hk2 : k < p.items.length := by simp at hk; omega
  simp [badC, andB] at hb
  exact h.jump k hk2 (by simp [hk1, hb.1]) hb.2
theorem ch_of {p : Pr} {L : List Bool} (h : choiceE p L = 0) : Ch p L := by
  obtain ⟨_, hl, hb⟩ := choice_ok h
  refine ⟨hl, fun k hk hlk hj => ?_⟩
  rw [List.any_eq_false] at hb
  have hk1 : k < L.length := by omega
  have h1 : k < (L.zip p.items).length := by simp; omega
  have := hb _ (List.getElem_mem h1)
  simp [badC, andB, hk1] at this hlk
  exact this hlk hj
theorem stable_iff {p : Pr} {L : List Bool} : stableB p L = true ↔ Sta p L := by
  unfold stableB
  rw [decide_eq_true_eq, ← fails_none]
  exact firstI_lt _ _

/-- A law's loop: nothing is found that is not as it should be. -/
theorem Places_law (n : Nat) (hn3 : 301000 ≤ n) (p : Pr) (long : List Bool) : R (n + 1) 7 [encP p, .p (bools long)] [] = some (ab true, []) := by
  have fG := Great_at n (by omega)
  have fC := Check_at n (by omega)
  have fP := Places_at n (by omega)
  have fS := Stable_at n (by omega)
  have fB := SameBools_at n (by omega)
  have fBn := SameBools_nil_at n (by omega)
  have fA := alive_at n (by omega)
  have fSb := Solve_bad_at n (by omega)
  have fRb := refSolve_bad_at n (by omega)
  rw [R_succ _ _ _ _ fs7, enter_eq (fn := Try.f7) rfl rfl rfl (Nat.le_of_ble_eq_true rfl)]
  cases hg : great p
  case true => simp [fG, hg, fA]
  obtain ⟨h1, h2⟩ := great_le hg
  by_cases h3 : 600 < (long.length : Int)
  · simp [fG, hg, h3, fA]
  have h3' : long.length ≤ 600 := by omega
  by_cases hc : choiceE p long = 0
  case neg => simp [fG, hg, h3, fA, fP, h1, h2, h3', placesR, hc]
  obtain ⟨hp, hl, _⟩ := choice_ok hc
  have hn := hp.n
  have h3n : ¬ 600 < (p.items.length : Int) := by omega
  have hll := laid_len p long
  have w0 : IntKind.i64.wrap ((p.items.length : Int) + 1) = (p.items.length : Int) + 1 := wrap64 (by omega) (by omega)
  have c0 : (0 : Int) < (p.items.length : Int) + 1 := by omega
  have c1 : 0 < (laid p long).length := by omega
  have g0 : (laid p long)[0]'c1 = 0 := by rw [laid_get]; rfl
  simp [fG, hg, h3n, fA, fP, h1, h2, placesR, hc, hll, w0, hl, c0, c1, g0, getD_map]
  generalize hr : iter _ _ _ _ _ = r
  have := iter_post p.items.length (fun k => ⟨[(1, .p (bools long)), (2, .ref 0 0), (4, ab false), (5, ab true), (6, .p (ints (laid p long))), (8, ai k)], [boxP p]⟩)
      (fun _ r => r = some (.exit 0, ⟨[(1, .p (bools long)), (2, .ref 0 0), (4, ab false), (5, ab true), (6, .p (ints (laid p long))), (8, ai p.items.length)], [boxP p]⟩)) hr (by omega) (by simp) (by
        intro k hk K hK
        by_cases h : k < p.items.length
        · have hK := hK h
          have hka : k < long.length := by omega
          have i1 : k < (laid p long).length := by omega
          have i2 : k + 1 < (laid p long).length := by omega
          have w1 : IntKind.i64.wrap ((k : Int) + 1) = (k : Int) + 1 := wrap64 (by omega) (by omega)
          have c2 : (k : Int) + 1 < (p.items.length : Int) + 1 := by omega
          have c3 : (0 : Int) ≤ (k : Int) + 1 := by omega
          have c4 : ((k : Int) + 1).toNat = k + 1 := by omega
          have c5 : (k : Int) < (p.items.length : Int) + 1 := by omega
          have b1 := pos_bound hp long k hk
          have b2 := pos_bound hp long (k + 1) (by omega)
          have e1 : (laid p long)[k]? = some (pos p long k) := by rw [List.getElem?_eq_getElem i1, laid_get]
          have e2 : (laid p long)[k + 1]? = some (pos p long (k + 1)) := by rw [List.getElem?_eq_getElem i2, laid_get]
          have hs := hp.size k h
          have hgg := hp.long k h
          have w3 : IntKind.i64.wrap p.items[k].size = p.items[k].size := wrap64 (by omega) (by omega)
          have w4 : IntKind.i64.wrap p.items[k].long = p.items[k].long := wrap64 (by omega) (by omega)
          have w2 : IntKind.i64.wrap (pos p long (k + 1) - pos p long k) = pos p long (k + 1) - pos p long k := wrap64 (by omega) (by omega)
          cases hlk : long[k]
          · have e : pos p long (k + 1) - pos p long k = p.items[k].size := by simp [pos, szB, h, hka, hlk]; omega
            simp [h, hl, hka, getD_map, hlk, hll, w1, c2, c3, c4, c5, e1, e2, laid_get, w2, w3, w4, e]
            simpa using hK
          · have e : pos p long (k + 1) - pos p long k = p.items[k].long := by simp [pos, szB, h, hka, hlk]; omega
            simp [h, hl, hka, getD_map, hlk, hll, w1, c2, c3, c4, c5, e1, e2, laid_get, w2, w3, w4, e]
            simpa using hK
        · obtain rfl : k = p.items.length := by omega
          simp)
  clear hr
  subst this
  simp

theorem Least_law (n : Nat) (hn3 : 301000 ≤ n) (p : Pr) (long : List Bool) : R (n + 1) 8 [encP p, .p (bools long)] [] = some (ab true, []) := by
  have fG := Great_at n (by omega)
  have fC := Check_at n (by omega)
  have fP := Places_at n (by omega)
  have fS := Stable_at n (by omega)
  have fB := SameBools_at n (by omega)
  have fBn := SameBools_nil_at n (by omega)
  have fA := alive_at n (by omega)
  have fSb := Solve_bad_at n (by omega)
  have fRb := refSolve_bad_at n (by omega)
  rw [R_succ _ _ _ _ fs8, enter_eq (fn := Try.f8) rfl rfl rfl (Nat.le_of_ble_eq_true rfl)]
  cases hg : great p
  case true => simp [fG, hg, fA]
  obtain ⟨h1, h2⟩ := great_le hg
  by_cases h3 : 600 < (long.length : Int)
  · simp [fG, hg, h3, fA]
  have h3' : long.length ≤ 600 := by omega
  cases hr : right p
  · simp [fG, hg, h3, fA, fSb, h1, h2, hr, fC]
  obtain ⟨L, hL⟩ := has_least hr
  have hs1 := Solve_at n (by omega) p L hr hL
  have hs2 := refSolve_at n (by omega) p L hr hL
  have hLl := hL.ch.len
  have hl6 : L.length ≤ 600 := by omega
  by_cases hb : firstI (badL p L) 0 p.items.length = -1
  case neg => simp [fG, hg, h3, fA, hs1, h1, h2, hr, hL, solveR, hb]
  have hcL := choiceE_eq hr hL.ch
  have hsL : stableB p L = true := stable_iff.2 hL.sta
  have hn : p.items.length ≤ 500 := (ok_of hr).n
  by_cases hc : choiceE p long = 0
  case neg => simp [fG, hg, h3, fA, hs1, h1, h2, h3', hr, hL, solveR, hb, fS, stableR, hcL, hsL, hLl, hl6, hc]
  cases hs : stableB p long
  · simp [fG, hg, h3, fA, hs1, h1, h2, h3', hr, hL, solveR, hb, fS, stableR, hcL, hsL, hLl, hl6, hc, hs]
  have hle := hL.le long (ch_of hc) (stable_iff.1 hs)
  have hll := (ch_of hc).len
  simp [fG, hg, h3, fA, hs1, h1, h2, h3', hr, hL, solveR, hb, fS, stableR, hcL, hsL, hLl, hl6, hc, hs]
  generalize hq : iter _ _ _ _ _ = r
  have := iter_post p.items.length (fun k => ⟨[(1, .p (bools long)), (4, ab false), (5, ab true), (6, .p (bools L)), (10, ai k)], [boxP p]⟩)
      (fun _ r => r = some (.exit 0, ⟨[(1, .p (bools long)), (4, ab false), (5, ab true), (6, .p (bools L)), (10, ai p.items.length)], [boxP p]⟩)) hq (by omega) (by simp) (by
        intro k hk K hK
        by_cases h : k < p.items.length
        · have hK := hK h
          have hka : k < L.length := by omega
          have hkb : k < long.length := by omega
          have w1 : IntKind.i64.wrap ((k : Int) + 1) = (k : Int) + 1 := wrap64 (by omega) (by omega)
          have hlek := hle k h
          simp only [lg, List.getElem?_eq_getElem hka, List.getElem?_eq_getElem hkb, Option.getD_some] at hlek
          cases hlk : L[k]
          · simp [h, hLl, hka, hkb, getD_map, hlk, hll, w1]
            simpa using hK
          · have hlk2 := hlek hlk
            simp [h, hLl, hka, hkb, getD_map, hlk, hlk2, hll, w1]
            simpa using hK
        · obtain rfl : k = p.items.length := by omega
          simp [hLl])
  clear hq
  subst this
  simp
end Go.En.R40
