/- What the law RelaxWide comes to: the conditions stand in each theorem. -/
import Derived.Test.YtjahccaafhfilaaC9
set_option linter.unusedSimpArgs false
set_option maxRecDepth 100000
set_option maxHeartbeats 4000000
namespace Go.En.R40
open Go.Proofs

theorem choice_none {p : Pr} (hr : right p = true) : choiceE p (noneL p) = 0 := by
  unfold choiceE
  rw [if_pos hr, if_pos (by simp [noneL])]
  rw [if_neg]
  intro ha
  rw [List.any_eq_true] at ha
  obtain ⟨x, hx, hb⟩ := ha
  obtain ⟨k, hk, rfl⟩ := List.mem_iff_getElem.1 hx
  simp [badC, andB, noneL] at hb
theorem app_items (p : Pr) (a b : Obj) [inst : Decidable (p.items = [])] : (if p.items = [] then some ([a, b, Obj.arr 0 7 false []], AV.arr 2 0 0 0) else some ([a, b, Obj.arr p.items.length 7 false (List.map encIt p.items)], AV.arr 2 p.items.length 0 p.items.length)) =
    some ([a, b, Obj.arr p.items.length 7 false (List.map encIt p.items)], AV.arr 2 p.items.length 0 p.items.length) := by
  split
  · rename_i h; simp [h]
  · rfl

def half (p : Pr) (k : Nat) : List It := (p.items.take k).map widen ++ p.items.drop k
theorem half_len (p : Pr) (k : Nat) : (half p k).length = p.items.length := by simp [half]; omega
theorem half_get (p : Pr) (k : Nat) (h : k < p.items.length) (h' : k < (half p k).length) : (half p k)[k] = p.items[k] := by
  simp [half, List.getElem_append, Nat.min_eq_left (Nat.le_of_lt h)]
theorem half_succ (p : Pr) (k : Nat) (h : k < p.items.length) : (half p k).set k (widen p.items[k]) = half p (k + 1) := by
  have h1 : (List.map widen (List.take k p.items)).length = k := by simp; omega
  rw [half, List.set_append_right _ _ (by omega), h1, Nat.sub_self, half, List.drop_eq_getElem_cons h, List.take_succ_eq_append_getElem h, List.map_append, List.append_assoc]
  rfl
theorem half_same (p : Pr) (k : Nat) (h : k < p.items.length) (ht : ¬ 0 ≤ p.items[k].to) : half p k = half p (k + 1) := by
  rw [← half_succ p k h, widen, if_neg ht, ← half_get p k h (by rw [half_len]; exact h), List.set_getElem_self]
theorem half_all (p : Pr) : half p p.items.length = (wideP p).items := by simp [half, wideP]

theorem Wide_law (n : Nat) (hn3 : 301000 ≤ n) (p : Pr) : R (n + 1) 10 [encP p] [] = some (ab true, []) := by
  have fG := Great_at n (by omega)
  have fA := alive_at n (by omega)
  rw [R_succ _ _ _ _ fs10, enter_eq (fn := Try.f10) rfl rfl rfl (Nat.le_of_ble_eq_true rfl)]
  cases hg : great p
  case true => simp [fG, hg, fA]
  obtain ⟨h1, h2⟩ := great_le hg
  have hn : (noneL p).length = p.items.length := by simp [noneL]
  have hS := Stable_at n (by omega) p (noneL p) h1 h2 (by omega)
  simp only [noneL, bools, List.map_replicate] at hS
  have c0 : (p.items.length : Int) ≤ 1099511627776 := by omega
  cases hr : right p
  · have hP := Solve_bad_at n (by omega) p h1 h2 hr
    have hc : stableR p (List.replicate p.items.length false) = tup2 (ab false) (ai 8) := by
      have : choiceE p (List.replicate p.items.length false) = 8 := by simp [choiceE, hr]
      simp [stableR, this]
    rw [hc] at hS
    simp [fG, hg, fA, hS, hP, h1, c0]
  · obtain ⟨L, hL⟩ := has_least hr
    have hP := Solve_at n (by omega) p L hr hL
    have hc : stableR p (List.replicate p.items.length false) = tup2 (ab (stableB p (noneL p))) (ai 0) := by
      have : choiceE p (noneL p) = 0 := choice_none hr
      simp only [noneL] at this
      simp [stableR, this, noneL]
    rw [hc, none_is hL] at hS
    have hB := SameBools_at n (by omega) L (noneL p) (by rw [hL.ch.len]; omega) (by omega)
    simp only [noneL, bools, List.map_replicate] at hB hS
    have c1 : p.items.length * 56 ≤ 1099511627776 := by omega
    have c2 : p.items.length ≤ 1099511627776 := by omega
    have hW := Solve_at n (by omega) (wideP p) _ (wide_right hr) (wide_least hr)
    rw [solveR, if_pos (none_bad _ _)] at hW
    have hBB := SameBools_at n (by omega) (noneL p) (noneL p) (by omega) (by omega)
    simp only [noneL, bools, List.map_replicate, decide_true] at hBB hW
    have hW : R n 21 [AV.agg [AV.p (PV.sl (List.map encIt (wideP p).items)), AV.p (ints p.labels)]] [] = some (tup2 (AV.p (PV.sl (List.replicate p.items.length (PV.bool false)))) (ai 0), []) := hW
    have tk : List.take p.items.length (List.map encIt (wideP p).items) = List.map encIt (wideP p).items := List.take_of_length_le (by simp [wide_len])
    by_cases hb : firstI (badL p L) 0 p.items.length = -1
    · simp [fG, hg, fA, hS, hP, h1, c0, c1, c2, solveR, hb, hB, app_items]
      generalize hi : iter _ _ _ _ _ = r
      have := iter_post p.items.length (fun k => ⟨[(3, ab true), (4, .arr 1 0 0 p.items.length), (9, .ref 3 0), (10, ai k)], [.box [.p (encIts p), .p (ints p.labels)], .arr 0 1 false (List.replicate p.items.length (.bool false)), .arr p.items.length 7 false (List.map encIt (half p k)), .box [.arr 2 p.items.length 0 p.items.length, .p (ints p.labels)]]⟩)
          (fun _ r => r = some (.exit 0, ⟨[(3, ab true), (4, .arr 1 0 0 p.items.length), (9, .ref 3 0), (10, ai p.items.length)], [.box [.p (encIts p), .p (ints p.labels)], .arr 0 1 false (List.replicate p.items.length (.bool false)), .arr p.items.length 7 false (List.map encIt (half p p.items.length)), .box [.arr 2 p.items.length 0 p.items.length, .p (ints p.labels)]]⟩)) hi (by omega) (by simp [half]) (by
            intro k hk K hK
            by_cases h : k < p.items.length
            · have hK := hK h
              have w1 : IntKind.i64.wrap ((k : Int) + 1) = (k : Int) + 1 := wrap64 (by omega) (by omega)
              have hl := half_len p k
              have hg := half_get p k h (by omega)
              by_cases ht : 0 ≤ p.items[k].to
              · have hs := congrArg (List.map encIt) (half_succ p k h)
                rw [List.map_set, widen, if_pos ht] at hs
                simp only [encIt] at hs
                simp [h, hl, hg, ht, w1, hs]
                simpa using hK
              · have hs := half_same p k h ht
                simp [h, hl, hg, ht, w1]
                rw [hs]
                simpa using hK
            · obtain rfl : k = p.items.length := by omega
              simp [half_len])
      clear hi
      subst this
      simp [half_all, wide_len, hW, hBB, tk]
    · have hne : L ≠ List.replicate p.items.length false := by
        rintro e
        have := none_bad p p
        simp only [noneL, ← e] at this
        exact hb this
      simp [fG, hg, fA, hS, hP, h1, c0, c1, c2, solveR, hb, hne, app_items]
      generalize hi : iter _ _ _ _ _ = r
      have := iter_post p.items.length (fun k => ⟨[(3, ab true), (4, .arr 1 0 0 p.items.length), (9, .ref 3 0), (10, ai k)], [.box [.p (encIts p), .p (ints p.labels)], .arr 0 1 false (List.replicate p.items.length (.bool false)), .arr p.items.length 7 false (List.map encIt (half p k)), .box [.arr 2 p.items.length 0 p.items.length, .p (ints p.labels)]]⟩)
          (fun _ r => r = some (.exit 0, ⟨[(3, ab true), (4, .arr 1 0 0 p.items.length), (9, .ref 3 0), (10, ai p.items.length)], [.box [.p (encIts p), .p (ints p.labels)], .arr 0 1 false (List.replicate p.items.length (.bool false)), .arr p.items.length 7 false (List.map encIt (half p p.items.length)), .box [.arr 2 p.items.length 0 p.items.length, .p (ints p.labels)]]⟩)) hi (by omega) (by simp [half]) (by
            intro k hk K hK
            by_cases h : k < p.items.length
            · have hK := hK h
              have w1 : IntKind.i64.wrap ((k : Int) + 1) = (k : Int) + 1 := wrap64 (by omega) (by omega)
              have hl := half_len p k
              have hg := half_get p k h (by omega)
              by_cases ht : 0 ≤ p.items[k].to
              · have hs := congrArg (List.map encIt) (half_succ p k h)
                rw [List.map_set, widen, if_pos ht] at hs
                simp only [encIt] at hs
                simp [h, hl, hg, ht, w1, hs]
                simpa using hK
              · have hs := half_same p k h ht
                simp [h, hl, hg, ht, w1]
                rw [hs]
                simpa using hK
            · obtain rfl : k = p.items.length := by omega
              simp [half_len])
      clear hi
      subst this
      simp [half_all, wide_len, hW, hBB, tk]
end Go.En.R40
