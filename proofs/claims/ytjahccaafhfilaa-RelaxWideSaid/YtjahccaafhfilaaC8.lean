/- The law's arguments as the evaluation has them: no conditions. -/
import Derived.Test.YtjahccaafhfilaaC2
import Derived.Test.YtjahccaafhfilaaC7
namespace Go.En.R40
open Go.En

def shItem : Sh := .st [.int .i64, .int .i64, .int .i64, .int .i64, .int .i64, .int .i64, .int .i64]
def shProg : Sh := .st [.sl shItem, .sl (.int .i64)]
def shBools : Sh := .sl .bool

theorem list_map {α : Type} {f : α → PV} {Q : PV → Prop} (h : ∀ y, Q y → ∃ a, y = f a) : ∀ es : List PV, (∀ y ∈ es, Q y) → ∃ l : List α, es = l.map f
  | [], _ => ⟨[], rfl⟩
  | y :: r, hy => by
    obtain ⟨a, rfl⟩ := h y (hy y (by simp))
    obtain ⟨l, rfl⟩ := list_map h r (fun z hz => hy z (by simp [hz]))
    exact ⟨a :: l, rfl⟩
theorem is_int {x : PV} (h : Is (.int .i64) x) : ∃ n, x = i64 n := by
  simp only [Is] at h; obtain ⟨n, rfl, _⟩ := h; exact ⟨n, rfl⟩
theorem is_bool {x : PV} (h : Is .bool x) : ∃ b, x = .bool b := by
  simp only [Is] at h; exact h
theorem is_ints {x : PV} (h : Is (.sl (.int .i64)) x) : ∃ l : List Int, x = ints l := by
  simp only [Is] at h
  obtain ⟨es, rfl, _, h⟩ := h
  obtain ⟨l, rfl⟩ := list_map (f := i64) (Q := Is (.int .i64)) (fun y hy => is_int hy) es (by simpa only [Is] using h)
  exact ⟨l, rfl⟩
theorem is_bools {x : PV} (h : Is shBools x) : ∃ l : List Bool, x = bools l := by
  simp only [shBools, Is] at h
  obtain ⟨es, rfl, _, h⟩ := h
  obtain ⟨l, rfl⟩ := list_map (f := PV.bool) (Q := Is .bool) (fun y hy => is_bool hy) es (by simpa only [Is] using h)
  exact ⟨l, rfl⟩
theorem is_item {x : PV} (h : Is shItem x) : ∃ it : It, x = encIt it := by
  simp only [shItem, Is, IsAll] at h
  obtain ⟨cs, rfl, y1, r1, ⟨n1, rfl, _⟩, rfl, y2, r2, ⟨n2, rfl, _⟩, rfl, y3, r3, ⟨n3, rfl, _⟩, rfl, y4, r4, ⟨n4, rfl, _⟩, rfl, y5, r5, ⟨n5, rfl, _⟩, rfl, y6, r6, ⟨n6, rfl, _⟩, rfl, y7, r7, ⟨n7, rfl, _⟩, rfl, rfl⟩ := h
  exact ⟨⟨n1, n2, n3, n4, n5, n6, n7⟩, rfl⟩
theorem is_prog {x : PV} (h : Is shProg x) : ∃ p : Pr, x = .agg [encIts p, ints p.labels] := by
  have h' : Is (.st [.sl shItem, .sl (.int .i64)]) x := h
  rw [Is] at h'
  simp only [IsAll] at h'
  obtain ⟨cs, rfl, y1, r1, h1, rfl, y2, r2, h2, rfl, rfl⟩ := h'
  obtain ⟨l2, rfl⟩ := is_ints h2
  rw [Is] at h1
  obtain ⟨es, rfl, _, h1⟩ := h1
  obtain ⟨l, rfl⟩ := list_map (f := encIt) (Q := Is shItem) (fun y hy => is_item hy) es h1
  exact ⟨⟨l, l2⟩, rfl⟩
theorem up_prog (p : Pr) : PV.up (.agg [encIts p, ints p.labels]) = encP p := rfl
theorem up_bools (l : List Bool) : PV.up (bools l) = .p (bools l) := rfl
theorem up_int (n : Int) : PV.up (i64 n) = ai n := rfl
end Go.En.R40
