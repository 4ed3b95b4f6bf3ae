/- What the law RelaxGrows comes to: the conditions stand in each theorem. -/
import Derived.Test.YtjahccaafhfilaaC9
set_option linter.unusedSimpArgs false
set_option maxRecDepth 100000
set_option maxHeartbeats 4000000
namespace Go.En.R40
open Go.Proofs

theorem Grows_law (n : Nat) (hn3 : 301000 ≤ n) (p : Pr) (which more : Int) : R (n + 1) 5 [encP p, ai which, ai more] [] = some (ab true, []) := by
  have fG := Great_at n (by omega)
  have fA := alive_at n (by omega)
  rw [R_succ _ _ _ _ fs5, enter_eq (fn := Try.f5) rfl rfl rfl (Nat.le_of_ble_eq_true rfl)]
  cases hg : great p
  case true => simp [fG, hg, fA]
  obtain ⟨h1, h2⟩ := great_le hg
  by_cases a1 : which < 0
  · simp [fG, hg, fA, a1]
  by_cases a2 : (p.items.length : Int) ≤ which
  · simp [fG, hg, fA, a1, a2]
  by_cases a3 : more < 0
  · simp [fG, hg, fA, a1, a2, a3]
  by_cases a4 : 1000 < more
  · simp [fG, hg, fA, a1, a2, a3, a4]
  obtain ⟨w, rfl⟩ := Int.eq_ofNat_of_zero_le (Int.not_lt.1 a1)
  have hw : w < p.items.length := by omega
  have c1 : p.items.length * 56 ≤ 1099511627776 := by omega
  have c2 : p.items.length ≤ 1099511627776 := by omega
  have c3 : p.items ≠ [] := by rintro e; rw [e] at hw; simp at hw
  obtain ⟨Q, hQ⟩ : ∃ Q, Q = (growP p w more).items := ⟨_, rfl⟩
  have eQ : growP p w more = ⟨Q, p.labels⟩ := by rw [hQ]; rfl
  have lQ : Q.length = p.items.length := by rw [hQ, grow_len]
  have eW : p.items[w]?.getD default = p.items[w] := by simp [hw]
  have s1 : 0 ≤ p.items[w].to → (List.map encIt p.items).set w (PV.agg [PV.int IntKind.i64 (IntKind.i64.wrap (p.items[w].size + more)), PV.int IntKind.i64 (IntKind.i64.wrap (p.items[w].long + more)), i64 p.items[w].to, i64 p.items[w].low, i64 p.items[w].high, i64 p.items[w].llow, i64 p.items[w].lhigh]) = Q.map encIt := by
    intro ht
    rw [hQ, growP, List.map_set, eW, growIt, if_pos ht]
  have s2 : ¬ 0 ≤ p.items[w].to → (List.map encIt p.items).set w (PV.agg [PV.int IntKind.i64 (IntKind.i64.wrap (p.items[w].size + more)), i64 p.items[w].long, i64 p.items[w].to, i64 p.items[w].low, i64 p.items[w].high, i64 p.items[w].llow, i64 p.items[w].lhigh]) = Q.map encIt := by
    intro ht
    rw [hQ, growP, List.map_set, eW, growIt, if_neg ht]
  have res : (∃ (x y : PV) (e f : Int), R n 21 [encP p] [] = some (tup2 (.p x) (ai e), []) ∧ R n 21 [encP ⟨Q, p.labels⟩] [] = some (tup2 (.p y) (ai f), []) ∧ (e ≠ 0 ∨ f ≠ 0) ∧ (e ≠ 24 ∨ f ≠ 0)) ∨
      (∃ L M : List Bool, R n 21 [encP p] [] = some (tup2 (.p (bools L)) (ai 0), []) ∧ R n 21 [encP ⟨Q, p.labels⟩] [] = some (tup2 (.p (bools M)) (ai 0), []) ∧ L.length = p.items.length ∧ M.length = p.items.length ∧ ∀ k, k < p.items.length → lg L k = true → lg M k = true) := by
    cases hr : right p
    · have hP := Solve_bad_at n (by omega) p h1 h2 hr
      cases hq : right ⟨Q, p.labels⟩
      · exact .inl ⟨_, _, _, _, hP, Solve_bad_at n (by omega) _ (by simp [lQ]; exact h1) h2 hq, .inl (by omega), .inl (by omega)⟩
      · obtain ⟨M, hM⟩ := has_least hq
        have hS := Solve_at n (by omega) _ M hq hM
        unfold solveR at hS
        split at hS
        · exact .inl ⟨_, _, _, _, hP, hS, .inl (by omega), .inl (by omega)⟩
        · exact .inl ⟨_, _, _, _, hP, hS, .inl (by omega), .inl (by omega)⟩
    · obtain ⟨L, hL⟩ := has_least hr
      have hP := Solve_at n (by omega) p L hr hL
      cases hq : right ⟨Q, p.labels⟩
      · have hS := Solve_bad_at n (by omega) ⟨Q, p.labels⟩ (by simp [lQ]; exact h1) h2 hq
        unfold solveR at hP
        split at hP
        · exact .inl ⟨_, _, _, _, hP, hS, .inr (by omega), .inr (by omega)⟩
        · exact .inl ⟨_, _, _, _, hP, hS, .inr (by omega), .inr (by omega)⟩
      · obtain ⟨M, hM⟩ := has_least hq
        have hS := Solve_at n (by omega) _ M hq hM
        have hM' : Least (growP p w more) M := by rw [eQ]; exact hM
        have hgl := grow_law hr hw (by omega) (by omega) hL hM'
        rw [eQ] at hgl
        unfold solveR at hP hS
        split at hS
        · rename_i b2
          rw [if_pos (hgl.2 b2)] at hP
          exact .inr ⟨L, M, hP, hS, hL.ch.len, by rw [hM.ch.len]; exact lQ, hgl.1⟩
        · split at hP
          · exact .inl ⟨_, _, _, _, hP, hS, .inr (by omega), .inr (by omega)⟩
          · exact .inl ⟨_, _, _, _, hP, hS, .inr (by omega), .inr (by omega)⟩
  have hwQ : w < Q.length := by omega
  have tQ : Q[w].to = p.items[w].to := by simp [hQ, growP, growIt, eW]
  clear hQ eQ
  have tk : List.take p.items.length (List.map encIt Q) = List.map encIt Q := List.take_of_length_le (by simp [lQ])
  rcases res with ⟨x, y, e, f, hP, hS, c4, c5⟩ | ⟨L, M, hP, hS, l1, l2, hle⟩
  · by_cases e0 : e = 0
    · subst e0
      have f0 : f ≠ 0 := by omega
      by_cases ht : 0 ≤ p.items[w].to
      · have s1 := s1 ht
        clear s2
        cases sc : scalar1 (AV.p y) <;> simp [fG, hg, fA, a1, a2, a3, a4, c1, c2, c3, hw, ht, s1, hwQ, lQ, hP, hS, tk, sc, f0]
      · have s2 := s2 ht
        clear s1
        cases sc : scalar1 (AV.p y) <;> simp [fG, hg, fA, a1, a2, a3, a4, c1, c2, c3, hw, ht, s2, tQ, hwQ, lQ, hP, hS, tk, sc, f0]
    · by_cases e1 : e = 24
      · subst e1
        have f0 : f ≠ 0 := by omega
        by_cases ht : 0 ≤ p.items[w].to
        · have s1 := s1 ht
          clear s2
          cases sc : scalar1 (AV.p y) <;> simp [fG, hg, fA, a1, a2, a3, a4, c1, c2, c3, hw, ht, s1, hwQ, lQ, hP, hS, tk, sc, f0]
        · have s2 := s2 ht
          clear s1
          cases sc : scalar1 (AV.p y) <;> simp [fG, hg, fA, a1, a2, a3, a4, c1, c2, c3, hw, ht, s2, tQ, hwQ, lQ, hP, hS, tk, sc, f0]
      · by_cases ht : 0 ≤ p.items[w].to
        · have s1 := s1 ht
          clear s2
          cases sc : scalar1 (AV.p y) <;> simp [fG, hg, fA, a1, a2, a3, a4, c1, c2, c3, hw, ht, s1, hwQ, lQ, hP, hS, tk, sc, e0, e1]
        · have s2 := s2 ht
          clear s1
          cases sc : scalar1 (AV.p y) <;> simp [fG, hg, fA, a1, a2, a3, a4, c1, c2, c3, hw, ht, s2, tQ, hwQ, lQ, hP, hS, tk, sc, e0, e1]
  · by_cases ht : 0 ≤ p.items[w].to
    · have s1 := s1 ht
      clear s2
      simp [fG, hg, fA, a1, a2, a3, a4, c1, c2, c3, hw, ht, s1, hwQ, lQ, hP, hS, tk, l1, l2]
      generalize hr : iter _ _ _ _ _ = r
      have := iter_post p.items.length (fun k => ⟨[(6, ab false), (7, ab true), (9, .p (bools L)), (11, .p (bools M)), (13, ai k)], [.box [.p (encIts p), .p (ints p.labels)], .arr p.items.length 7 true (List.map encIt Q), .box [.arr 1 p.items.length 0 p.items.length, .p (ints p.labels)]]⟩)
          (fun _ r => r = some (.exit 0, ⟨[(6, ab false), (7, ab true), (9, .p (bools L)), (11, .p (bools M)), (13, ai p.items.length)], [.box [.p (encIts p), .p (ints p.labels)], .arr p.items.length 7 true (List.map encIt Q), .box [.arr 1 p.items.length 0 p.items.length, .p (ints p.labels)]]⟩)) hr (by omega) (by simp) (by
            intro k hk K hK
            by_cases h : k < p.items.length
            · have hK := hK h
              have hka : k < L.length := by omega
              have hkb : k < M.length := by omega
              have w1 : IntKind.i64.wrap ((k : Int) + 1) = (k : Int) + 1 := wrap64 (by omega) (by omega)
              have hlek := hle k h
              simp only [lg, List.getElem?_eq_getElem hka, List.getElem?_eq_getElem hkb, Option.getD_some] at hlek
              cases hlk : L[k]
              · simp [h, l1, l2, hka, hkb, getD_map, hlk, w1]
                simpa using hK
              · have hlk2 := hlek hlk
                simp [h, l1, l2, hka, hkb, getD_map, hlk, hlk2, w1]
                simpa using hK
            · obtain rfl : k = p.items.length := by omega
              simp [l1, l2])
      clear hr
      subst this
      simp
    · have s2 := s2 ht
      clear s1
      simp [fG, hg, fA, a1, a2, a3, a4, c1, c2, c3, hw, ht, s2, tQ, hwQ, lQ, hP, hS, tk, l1, l2]
      generalize hr : iter _ _ _ _ _ = r
      have := iter_post p.items.length (fun k => ⟨[(6, ab false), (7, ab true), (9, .p (bools L)), (11, .p (bools M)), (13, ai k)], [.box [.p (encIts p), .p (ints p.labels)], .arr p.items.length 7 true (List.map encIt Q), .box [.arr 1 p.items.length 0 p.items.length, .p (ints p.labels)]]⟩)
          (fun _ r => r = some (.exit 0, ⟨[(6, ab false), (7, ab true), (9, .p (bools L)), (11, .p (bools M)), (13, ai p.items.length)], [.box [.p (encIts p), .p (ints p.labels)], .arr p.items.length 7 true (List.map encIt Q), .box [.arr 1 p.items.length 0 p.items.length, .p (ints p.labels)]]⟩)) hr (by omega) (by simp) (by
            intro k hk K hK
            by_cases h : k < p.items.length
            · have hK := hK h
              have hka : k < L.length := by omega
              have hkb : k < M.length := by omega
              have w1 : IntKind.i64.wrap ((k : Int) + 1) = (k : Int) + 1 := wrap64 (by omega) (by omega)
              have hlek := hle k h
              simp only [lg, List.getElem?_eq_getElem hka, List.getElem?_eq_getElem hkb, Option.getD_some] at hlek
              cases hlk : L[k]
              · simp [h, l1, l2, hka, hkb, getD_map, hlk, w1]
                simpa using hK
              · have hlk2 := hlek hlk
                simp [h, l1, l2, hka, hkb, getD_map, hlk, hlk2, w1]
                simpa using hK
            · obtain rfl : k = p.items.length := by omega
              simp [l1, l2])
      clear hr
      subst this
      simp
end Go.En.R40
