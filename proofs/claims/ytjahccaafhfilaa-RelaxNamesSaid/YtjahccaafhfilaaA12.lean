/- What the law RelaxNames comes to, and the facts that it needs: the conditions stand in each theorem. -/
import Derived.Test.YtjahccaafhfilaaA9
set_option linter.unusedSimpArgs false
set_option maxRecDepth 100000
set_option maxHeartbeats 4000000
namespace Go.En.R40
open Go.Proofs

abbrev pit (a b c d e f g : Int) : PV := .agg [i64 a, i64 b, i64 c, i64 d, i64 e, i64 f, i64 g]
abbrev ait (a b c d e f g : Int) : AV := .agg [ai a, ai b, ai c, ai d, ai e, ai f, ai g]
theorem words_run (n : Nat) (k : Int) : R (n + 1) 24 [ai k] [] = some (ait k 0 (-1) 0 0 0 0, []) := by
  rw [R_succ _ _ _ _ fs24, enter_eq (fn := Try.f24) rfl rfl rfl (Nat.le_of_ble_eq_true rfl)]
  simp
theorem jump_run (n : Nat) (a b c : Int) : R (n + 1) 26 [ai a, ai b, ai c] [] = some (ait 1 2 a b c (-1000) 1000, []) := by
  rw [R_succ _ _ _ _ fs26, enter_eq (fn := Try.f26) rfl rfl rfl (Nat.le_of_ble_eq_true rfl)]
  simp
abbrev prg (l : List PV) (m : List PV) : AV := .agg [.p (.sl l), .p (.sl m)]
theorem nm1 (n : Nat) : R (n + 1000) 21 [prg [pit 1 2 0 0 3 0 5, pit 6 0 (-1) 0 0 0 0] [i64 2]] [] = some (tup2 nilR (ai 24), []) := by kernel_rfl
theorem nm2 (n : Nat) : R (n + 1000) 21 [prg [pit 1 2 0 0 3 0 6, pit 6 0 (-1) 0 0 0 0] [i64 2]] [] = some (tup2 (.p (bools [true, false])) (ai 0), []) := by kernel_rfl
theorem nm3 (n : Nat) : R (n + 1000) 21 [.agg [nilR, nilR]] [] = some (tup2 (.p (bools [])) (ai 0), []) := by kernel_rfl
theorem nm4 (n : Nat) : R (n + 1000) 25 [prg [pit 1 2 0 (-1) 0 (-1000) 1000] [i64 0], .p (bools [false])] [] = some (ab true, []) := by kernel_rfl
theorem nm5 (n : Nat) : R (n + 1000) 25 [prg [pit 1 2 0 0 0 (-1000) 1000] [i64 0], .p (bools [true])] [] = some (ab true, []) := by kernel_rfl
theorem nm6 (n : Nat) : R (n + 1000) 13 [prg [pit 3 0 (-1) 0 0 0 0, pit 1 2 0 0 0 (-1000) 1000, pit 0 0 (-1) 0 0 0 0] [i64 3], .p (bools [false, true, false])] [] = some (tup2 (.p (ints [0, 3, 5, 5])) (ai 0), []) := by kernel_rfl
theorem nm7 (n : Nat) : R (n + 1000) 13 [.agg [.p (.sl [pit 3 0 (-1) 0 0 0 0]), nilR], .p (bools [true])] [] = some (tup2 nilR (ai 2), []) := by kernel_rfl
theorem nm8 (n : Nat) : R (n + 1000) 15 [.agg [.p (.sl [pit 3 0 (-1) 0 0 0 0]), nilR], nilR] [] = some (tup2 (ab false) (ai 2), []) := by kernel_rfl
theorem nm9 (n : Nat) : R (n + 1000) 18 [.agg [nilR, .p (.sl [i64 1])]] [] = some (ai 8, []) := by kernel_rfl
theorem nm10 (n : Nat) : R (n + 1000) 20 [.p (bools [true, false]), .p (bools [true, false])] [] = some (ab true, []) := by kernel_rfl
theorem nm11 (n : Nat) : R (n + 1000) 17 [.p (ints [0, 3, 5, 5]), .p (ints [0, 3, 5, 5])] [] = some (ab true, []) := by kernel_rfl

/-- A program of labels alone, its items nil. -/
theorem Check_nil (n : Nat) (l : List Int) (h2 : l.length ≤ 600) : R (n + 2000) 18 [.agg [nilR, .p (ints l)]] [] = some (ai (if right ⟨[], l⟩ then 0 else 8), []) := by
  let p : Pr := ⟨[], l⟩
  rw [R_succ _ _ _ _ fs18, enter_eq (fn := Try.f18) rfl rfl rfl (Nat.le_of_ble_eq_true rfl)]
  simp
  generalize hr : iter _ _ _ _ _ = r
  have := iter_post l.length (fun k => ⟨[(1, .ref 0 0), (3, ab (okA ⟨[], l⟩ k)), (19, .p (ints l)), (20, ai l.length), (21, ai k)], [.box [nilR, .p (ints l)]]⟩)
      (fun _ r => r = some (.exit 0, ⟨[(1, .ref 0 0), (3, ab (okA ⟨[], l⟩ l.length)), (19, .p (ints l)), (20, ai l.length), (21, ai l.length)], [.box [nilR, .p (ints l)]]⟩)) hr (by omega) (by simp [okA]) (by
        intro k hk K hK
        by_cases h : k < l.length
        · have w1 : IntKind.i64.wrap ((k : Int) + 1) = (k : Int) + 1 := wrap64 (by omega) (by omega)
          have hK := hK h
          simp only [okA] at hK
          cases o : okA ⟨[], l⟩ k
          · rw [o] at hK
            simp [h, getD_map, within_run, w1, o]
            simpa [h] using hK
          · rw [o] at hK
            simp [h, getD_map, within_run, w1, o]
            simpa [h] using hK
        · obtain rfl : k = l.length := by omega
          simp)
  clear hr
  subst this
  simp
  have e : okA ⟨[], l⟩ l.length = right ⟨[], l⟩ := by
    have := okB_right ⟨[], l⟩
    simpa [okB] using this
  generalize hr : iter _ _ _ _ _ = r
  have := iter_post 0 (fun k => ⟨[(1, .ref 0 0), (3, ab (okA ⟨[], l⟩ l.length)), (35, nilR), (36, ai 0), (37, ai 0)], [.box [nilR, .p (ints l)]]⟩)
      (fun _ r => r = some (.exit 2, ⟨[(1, .ref 0 0), (3, ab (okA ⟨[], l⟩ l.length)), (35, nilR), (36, ai 0), (37, ai 0)], [.box [nilR, .p (ints l)]]⟩)) hr (by omega) (by simp) (by
        intro k hk K hK
        simp)
  clear hr
  subst this
  rw [e]
  cases right ⟨[], l⟩ <;> simp

def badItems : List It := [⟨1001, 0, -1, 0, 0, 0, 0⟩, ⟨-1, 0, -1, 0, 0, 0, 0⟩, ⟨0, 1, -1, 0, 0, 0, 0⟩, ⟨0, 0, 1, 0, 0, 0, 0⟩, ⟨0, 0, -2, 0, 0, 0, 0⟩, ⟨2, 1, 0, 0, 0, 0, 0⟩, ⟨0, 1001, 0, 0, 0, 0, 0⟩, ⟨0, 0, 0, 1, 0, 0, 0⟩, ⟨0, 0, 0, 0, -1, 0, 0⟩, ⟨0, 0, 0, 0, 0, 1, 0⟩, ⟨0, 0, 0, -2, 0, -1, 0⟩, ⟨0, 0, 0, 0, 2, 0, 1⟩, ⟨0, 0, 0, 0, 0, 0, 16777217⟩, ⟨0, 0, 0, 0, 0, -16777217, 0⟩]
theorem bad_len : badItems.length = 14 := rfl
theorem bad_all : ∀ k (h : k < badItems.length), right ⟨[badItems[k]], [0]⟩ = false := by
  intro k h
  have : ∀ x ∈ badItems, right ⟨[x], [0]⟩ = false := by decide
  exact this _ (List.getElem_mem h)
theorem zeros_right : right ⟨[], List.replicate 500 0⟩ = true ∧ right ⟨[], List.replicate 501 0⟩ = false := by
  constructor
  · have : okLb ⟨[], List.replicate 500 0⟩ 0 = true := by decide
    simp only [right, List.length_replicate, List.length_nil, List.all_replicate, List.all_nil, this]
    decide
  · simp only [right, List.length_replicate]; simp

theorem words_at (N : Nat) (hN : 1 ≤ N) : ∀ k : Int, R N 24 [ai k] [] = some (ait k 0 (-1) 0 0 0 0, []) := at_of (P := fun N => ∀ k : Int, R N 24 [ai k] [] = some (ait k 0 (-1) 0 0 0 0, [])) 1 N words_run hN
theorem jump_at (N : Nat) (hN : 1 ≤ N) : ∀ a b c : Int, R N 26 [ai a, ai b, ai c] [] = some (ait 1 2 a b c (-1000) 1000, []) := at_of (P := fun N => ∀ a b c : Int, R N 26 [ai a, ai b, ai c] [] = some (ait 1 2 a b c (-1000) 1000, [])) 1 N jump_run hN
theorem Check_nil_at (N : Nat) (hN : 2000 ≤ N) (l : List Int) (h2 : l.length ≤ 600) : R N 18 [.agg [nilR, .p (ints l)]] [] = some (ai (if right ⟨[], l⟩ then 0 else 8), []) := at_of (P := fun N => R N 18 [.agg [nilR, .p (ints l)]] [] = some (ai (if right ⟨[], l⟩ then 0 else 8), [])) 2000 N (fun n => Check_nil n l h2) hN

end Go.En.R40
set_option linter.unusedSimpArgs false
set_option maxRecDepth 100000
set_option maxHeartbeats 4000000
namespace Go.En.R40
open Go.Proofs

abbrev hpN : Hp := [.arr 0 7 false [pit 1 2 0 0 3 0 5, pit 6 0 (-1) 0 0 0 0], .arr 0 1 false [i64 2], .arr 0 7 true [pit 1 2 0 0 3 0 6, pit 6 0 (-1) 0 0 0 0], .arr 0 1 true [i64 2], .arr 0 7 false [pit 1 2 0 (-1) 0 (-1000) 1000], .arr 0 1 false [i64 0], .arr 0 1 false [.bool false], .arr 0 7 false [pit 1 2 0 0 0 (-1000) 1000], .arr 0 1 false [i64 0], .arr 0 1 false [.bool true], .arr 0 7 true [pit 3 0 (-1) 0 0 0 0, pit 1 2 0 0 0 (-1000) 1000, pit 0 0 (-1) 0 0 0 0], .arr 0 1 true [i64 3], .arr 0 1 true [.bool false, .bool true, .bool false], .arr 0 7 false [pit 3 0 (-1) 0 0 0 0], .arr 0 1 false [.bool true], .arr 0 7 false [pit 3 0 (-1) 0 0 0 0], .arr 0 7 false (badItems.map encIt)]
theorem bad_check (n : Nat) (hn : 2000 ≤ n) (k : Nat) (h : k < badItems.length) : R n 18 [.agg [.p (.sl [encIt badItems[k]]), .p (.sl [i64 0])]] [] = some (ai 8, []) := by
  have := Check_at n hn ⟨[badItems[k]], [0]⟩ (by simp) (by simp)
  simp only [bad_all k h, Bool.false_eq_true, if_false] at this
  simpa only [encP, encIts, ints, List.map_cons, List.map_nil] using this

theorem Names_law (n : Nat) (hn3 : 301000 ≤ n) : R (n + 1) 11 [] [] = some (ab true, []) := by
  have c1 := Check_nil_at n (by omega) (List.replicate 500 0) (by simp)
  have c2 := Check_nil_at n (by omega) (List.replicate 501 0) (by simp)
  rw [if_pos zeros_right.1] at c1
  simp only [zeros_right.2, Bool.false_eq_true, if_false] at c2
  simp only [ints, List.map_replicate] at c1 c2
  have fW := words_at n (by omega)
  have fJ := jump_at n (by omega)
  have fA := alive_at n (by omega)
  have h1 := at_of (P := fun N => R N 21 [prg [pit 1 2 0 0 3 0 5, pit 6 0 (-1) 0 0 0 0] [i64 2]] [] = some (tup2 nilR (ai 24), [])) 1000 n nm1 (by omega)
  have h2 := at_of (P := fun N => R N 21 [prg [pit 1 2 0 0 3 0 6, pit 6 0 (-1) 0 0 0 0] [i64 2]] [] = some (tup2 (.p (.sl [.bool true, .bool false])) (ai 0), [])) 1000 n nm2 (by omega)
  have h3 := at_of (P := fun N => R N 21 [.agg [nilR, nilR]] [] = some (tup2 (.p (.sl [])) (ai 0), [])) 1000 n nm3 (by omega)
  have h4 := at_of (P := fun N => R N 25 [prg [pit 1 2 0 (-1) 0 (-1000) 1000] [i64 0], .p (.sl [.bool false])] [] = some (ab true, [])) 1000 n nm4 (by omega)
  have h5 := at_of (P := fun N => R N 25 [prg [pit 1 2 0 0 0 (-1000) 1000] [i64 0], .p (.sl [.bool true])] [] = some (ab true, [])) 1000 n nm5 (by omega)
  have h6 := at_of (P := fun N => R N 13 [prg [pit 3 0 (-1) 0 0 0 0, pit 1 2 0 0 0 (-1000) 1000, pit 0 0 (-1) 0 0 0 0] [i64 3], .p (.sl [.bool false, .bool true, .bool false])] [] = some (tup2 (.p (.sl [i64 0, i64 3, i64 5, i64 5])) (ai 0), [])) 1000 n nm6 (by omega)
  have h7 := at_of (P := fun N => R N 13 [.agg [.p (.sl [pit 3 0 (-1) 0 0 0 0]), nilR], .p (.sl [.bool true])] [] = some (tup2 nilR (ai 2), [])) 1000 n nm7 (by omega)
  have h8 := at_of (P := fun N => R N 15 [.agg [.p (.sl [pit 3 0 (-1) 0 0 0 0]), nilR], nilR] [] = some (tup2 (ab false) (ai 2), [])) 1000 n nm8 (by omega)
  have h9 := at_of (P := fun N => R N 18 [.agg [nilR, .p (.sl [i64 1])]] [] = some (ai 8, [])) 1000 n nm9 (by omega)
  have h10 := at_of (P := fun N => R N 20 [.p (.sl [.bool true, .bool false]), .p (.sl [.bool true, .bool false])] [] = some (ab true, [])) 1000 n nm10 (by omega)
  have h11 := at_of (P := fun N => R N 17 [.p (.sl [i64 0, i64 3, i64 5, i64 5]), .p (.sl [i64 0, i64 3, i64 5, i64 5])] [] = some (ab true, [])) 1000 n nm11 (by omega)
  rw [R_succ _ _ _ _ fs11, enter_eq (fn := Try.f11) rfl rfl rfl (Nat.le_of_ble_eq_true rfl)]
  simp [fW, fJ, h1, h2, h3, h4, h5, h6, h7, h8]
  generalize hr : iter _ _ _ _ _ = r
  have := iter_post 14 (fun k => ⟨[(2, ai 24), (3, .p (.sl [.bool true, .bool false])), (4, ai 0), (5, .p (.sl [])), (6, ai 0), (7, ab true), (8, .p (.sl [i64 0, i64 3, i64 5, i64 5])), (9, ai 0), (11, ai 2), (13, ai 2), (14, ab true), (94, .arr 16 0 0 14), (95, ai 14), (96, ai k)], hpN⟩) (fun _ r => r = some (.exit 0, ⟨[(2, ai 24), (3, .p (.sl [.bool true, .bool false])), (4, ai 0), (5, .p (.sl [])), (6, ai 0), (7, ab true), (8, .p (.sl [i64 0, i64 3, i64 5, i64 5])), (9, ai 0), (11, ai 2), (13, ai 2), (14, ab true), (94, .arr 16 0 0 14), (95, ai 14), (96, ai 14)], hpN⟩)) hr (by omega) (by simp [hpN, badItems]) (by
        intro k hk K hK
        by_cases h : k < 14
        · have hK := hK h
          have hb : k < badItems.length := h
          have w1 : IntKind.i64.wrap ((k : Int) + 1) = (k : Int) + 1 := wrap64 (by omega) (by omega)
          have hc := bad_check n (by omega) k hb
          have hk14 : (k : Int) < 14 := by omega
          have eb : badItems[k]? = some badItems[k] := List.getElem?_eq_getElem hb
          simp [hb, hk14, eb, bad_len, hc, w1]
          simpa using hK
        · obtain rfl : k = 14 := by omega
          simp)
  clear hr
  subst this
  have r1 : ∀ a : PV, List.replicate 1 a = [a] := fun _ => rfl
  have r2 : ∀ a : PV, List.replicate 2 a = [a, a] := fun _ => rfl
  have r4 : ∀ a : PV, List.replicate 4 a = [a, a, a, a] := fun _ => rfl
  simp [-List.reduceReplicate, r1, r2, r4, h9, c1, c2, fA, h10, h11]

end Go.En.R40
