/- The least stable choice, what Solve comes to, and how a longer item or a wider range tells on it: the conditions stand in each theorem. -/
import Derived.Test.YtjahccaafhfilaaC5
import Derived.Test.YtjahccaafhfilaaC7
namespace Go.En.R40

/-- A choice: of the items' number, long only at jumps. -/
structure Ch (p : Pr) (L : List Bool) : Prop where
  len : L.length = p.items.length
  jump : ∀ k (h : k < p.items.length), L[k]?.getD default = true → p.items[k].to ≠ -1
abbrev lg (L : List Bool) (k : Nat) : Bool := L[k]?.getD default
def Le (p : Pr) (L M : List Bool) : Prop := ∀ k, k < p.items.length → lg L k = true → lg M k = true
def Sta (p : Pr) (L : List Bool) : Prop := ∀ k, k < p.items.length → failB p L k = false
structure Least (p : Pr) (L : List Bool) : Prop where
  ch : Ch p L
  sta : Sta p L
  le : ∀ M, Ch p M → Sta p M → Le p L M

theorem pos_mono {p : Pr} (hp : Ok p) {L M : List Bool} (hM : Ch p M) (hle : Le p L M) : ∀ d a, a + d ≤ p.items.length → 0 ≤ pos p L (a + d) - pos p L a ∧ pos p L (a + d) - pos p L a ≤ pos p M (a + d) - pos p M a := by
  intro d
  induction d with
  | zero => intro a _; simp
  | succ d ih =>
    intro a ha
    have hk : a + d < p.items.length := by omega
    have h1 := ih a (by omega)
    have e1 : pos p L (a + (d + 1)) = pos p L (a + d) + szB (p.items[a + d]?.getD default) (lg L (a + d)) := rfl
    have e2 : pos p M (a + (d + 1)) = pos p M (a + d) + szB (p.items[a + d]?.getD default) (lg M (a + d)) := rfl
    have hs := hp.size _ hk
    have hl := hp.long _ hk
    have hm := hM.jump _ hk
    have hj := hp.to _ hk
    have hle' := hle _ hk
    rw [e1, e2]
    simp only [List.getElem?_eq_getElem hk, Option.getD_some, szB]
    cases hL : lg L (a + d) <;> cases hMk : lg M (a + d)
    · simp; omega
    · have := (hj (hm hMk)).2.2.1; simp; omega
    · have := hle' hL; rw [hMk] at this; cases this
    · simp; omega

/-- A jump that does not reach does not reach where others are longer. -/
theorem fail_mono {p : Pr} (hp : Ok p) {L M : List Bool} (hM : Ch p M) (hle : Le p L M) {k : Nat} (hk : k < p.items.length) (hf : failB p L k = true) (hs : lg M k = false) : failB p M k = true := by
  simp only [failB, andB, Bool.and_eq_true, decide_eq_true_eq, Bool.not_eq_true'] at hf ⊢
  obtain ⟨⟨h1, h2⟩, h3⟩ := hf
  refine ⟨⟨h1, hs⟩, ?_⟩
  rw [List.getElem?_eq_getElem hk, Option.getD_some] at h1 h3 ⊢
  have hj := hp.to k hk (by omega)
  have hlt : p.items[k].to.toNat < p.labels.length := by omega
  have hlab := hp.lab _ hlt
  have eL : dist p L k = pos p L (p.labels[p.items[k].to.toNat]).toNat - pos p L (k + 1) := by
    simp [dist, List.getElem?_eq_getElem hk, List.getElem?_eq_getElem hlt]
  have eM : dist p M k = pos p M (p.labels[p.items[k].to.toNat]).toNat - pos p M (k + 1) := by
    simp [dist, List.getElem?_eq_getElem hk, List.getElem?_eq_getElem hlt]
  generalize ht : (p.labels[p.items[k].to.toNat]).toNat = t at *
  have htn : t ≤ p.items.length := by omega
  rw [← Bool.not_eq_true, inB_iff] at h3 ⊢
  rw [eL] at h3
  rw [eM]
  rcases Nat.le_total (k + 1) t with hc | hc
  · obtain ⟨d, rfl⟩ := Nat.exists_eq_add_of_le hc
    have := pos_mono hp hM hle d (k + 1) (by omega)
    omega
  · obtain ⟨d, hd⟩ := Nat.exists_eq_add_of_le hc
    have := pos_mono hp hM hle d t (by omega)
    rw [← hd] at this
    omega

theorem lg_set {L : List Bool} {i k : Nat} (hi : i < L.length) : lg (L.set i true) k = if k = i then true else lg L k := by
  simp only [lg, List.getElem?_set]
  by_cases h : i = k
  · subst h; simp [hi]
  · simp [h, Ne.symm h]
theorem ch_set {p : Pr} {L : List Bool} (h : Ch p L) {i : Nat} (hi : i < p.items.length) (hj : p.items[i].to ≠ -1) : Ch p (L.set i true) := by
  refine ⟨by simp [h.len], fun k hk hl => ?_⟩
  have := lg_set (L := L) (i := i) (k := k) (by rw [h.len]; exact hi)
  simp only [lg] at this
  rw [this] at hl
  split at hl
  · rename_i e; subst e; exact hj
  · exact h.jump k hk hl
theorem ch_none (p : Pr) : Ch p (List.replicate p.items.length false) := by
  refine ⟨by simp, fun k hk hl => ?_⟩
  simp [hk] at hl
theorem le_none (p : Pr) (M : List Bool) : Le p (List.replicate p.items.length false) M := by
  intro k hk hl
  simp [lg, hk] at hl
theorem fail_jump {p : Pr} {L : List Bool} {k : Nat} (hk : k < p.items.length) (h : failB p L k = true) : p.items[k].to ≠ -1 ∧ 0 ≤ p.items[k].to ∧ lg L k = false := by
  simp only [failB, andB, Bool.and_eq_true, decide_eq_true_eq, Bool.not_eq_true'] at h
  rw [List.getElem?_eq_getElem hk, Option.getD_some] at h
  exact ⟨by omega, h.1.1, h.1.2⟩
/-- A failing jump becomes long: still below all stable choices. -/
theorem le_set {p : Pr} (hp : Ok p) {L M : List Bool} (hL : Ch p L) (hM : Ch p M) (hs : Sta p M) (hle : Le p L M) {i : Nat} (hi : i < p.items.length) (hf : failB p L i = true) : Le p (L.set i true) M := by
  intro k hk hl
  rw [lg_set (by rw [hL.len]; exact hi)] at hl
  split at hl
  · rename_i e
    subst e
    cases hm : lg M k with
    | true => rfl
    | false =>
      have := fail_mono hp hM hle hk hf hm
      rw [hs k hk] at this; cases this
  · exact hle k hk hl
theorem least_unique {p : Pr} {L M : List Bool} (h1 : Least p L) (h2 : Least p M) : L = M := by
  refine List.ext_getElem (by rw [h1.ch.len, h2.ch.len]) fun k hk hk' => ?_
  have hn : k < p.items.length := by rw [← h1.ch.len]; exact hk
  have a := h1.le M h2.ch h2.sta k hn
  have b := h2.le L h1.ch h1.sta k hn
  simp only [lg, List.getElem?_eq_getElem hk, List.getElem?_eq_getElem hk', Option.getD_some] at a b
  cases h : L[k] <;> cases h' : M[k]
  · rfl
  · rw [h, h'] at b; simp at b
  · rw [h, h'] at a; simp at a
  · rfl

theorem firstI_none {f : Nat → Bool} : ∀ n k, firstI f k n = -1 ↔ ∀ j, k ≤ j → j < k + n → f j = false := by
  intro n
  induction n with
  | zero => intro k; simp [firstI]; intro j h1 h2; omega
  | succ n ih =>
    intro k
    simp only [firstI]
    split
    · rename_i h
      constructor
      · intro h2; omega
      · intro h2; have := h2 k (Nat.le_refl _) (by omega); rw [h] at this; cases this
    · rename_i h
      rw [ih]
      constructor
      · intro h2 j h3 h4
        rcases Nat.eq_or_lt_of_le h3 with rfl | h5
        · simpa using h
        · exact h2 j h5 (by omega)
      · intro h2 j h3 h4; exact h2 j (by omega) (by omega)
theorem firstI_some {f : Nat → Bool} : ∀ n k, firstI f k n ≠ -1 → ∃ j : Nat, firstI f k n = (j : Int) ∧ k ≤ j ∧ j < k + n ∧ f j = true := by
  intro n
  induction n with
  | zero => intro k h; simp [firstI] at h
  | succ n ih =>
    intro k h
    simp only [firstI] at h ⊢
    split
    · rename_i h2; exact ⟨k, rfl, Nat.le_refl _, by omega, h2⟩
    · rename_i h2
      rw [if_neg h2] at h
      obtain ⟨j, h3, h4, h5, h6⟩ := ih (k + 1) h
      exact ⟨j, h3, by omega, by omega, h6⟩
theorem fails_none {p : Pr} {L : List Bool} : failsI p L = -1 ↔ Sta p L := by
  unfold failsI
  rw [firstI_none]
  constructor
  · intro h k hk; exact h k (Nat.zero_le _) (by omega)
  · intro h j _ hj; exact h j (by omega)
theorem fails_some {p : Pr} {L : List Bool} (h : failsI p L ≠ -1) : ∃ j : Nat, failsI p L = (j : Int) ∧ j < p.items.length ∧ failB p L j = true := by
  obtain ⟨j, h1, _, h2, h3⟩ := firstI_some p.items.length 0 h
  exact ⟨j, h1, by omega, h3⟩

/-- The number of short forms. -/
def shorts (L : List Bool) : Nat := L.count false
theorem shorts_set {L : List Bool} {i : Nat} (hi : i < L.length) (h : lg L i = false) : shorts (L.set i true) + 1 = shorts L := by
  induction L generalizing i with
  | nil => simp at hi
  | cons b L ih =>
    cases i with
    | zero =>
      simp [lg] at h
      subst h
      simp [shorts]
    | succ i =>
      have := ih (i := i) (by simpa using hi) (by simpa [lg] using h)
      simp only [List.set_cons_succ, shorts, List.count_cons] at this ⊢
      omega

/-- So many steps. -/
def its {α : Type} (step : α → α) : Nat → α → α
  | 0, s => s
  | n + 1, s => its step n (step s)
theorem its_succ {α : Type} (step : α → α) : ∀ (n : Nat) (s : α), its step (n + 1) s = step (its step n s)
  | 0, _ => rfl
  | n + 1, s => its_succ step n (step s)

/-- The first round at which nothing is to be done any more. -/
theorem ends {α : Type} (step : α → α) (done : α → Bool) (m : α → Nat) (Q : α → Prop) (hQ : ∀ s, Q s → done s = false → Q (step s) ∧ m (step s) < m s) :
    ∀ n s, Q s → m s ≤ n → ∃ M, M ≤ n ∧ done (its step M s) = true ∧ (∀ k, k < M → done (its step k s) = false) ∧ ∀ k, k ≤ M → Q (its step k s) := by
  intro n
  induction n with
  | zero =>
    intro s hs hm
    cases hd : done s with
    | true =>
      refine ⟨0, Nat.le_refl _, hd, fun k hk => by omega, fun k hk => ?_⟩
      obtain rfl : k = 0 := by omega
      exact hs
    | false => have := (hQ s hs hd).2; omega
  | succ n ih =>
    intro s hs hm
    cases hd : done s with
    | true =>
      refine ⟨0, Nat.zero_le _, hd, fun k hk => by omega, fun k hk => ?_⟩
      obtain rfl : k = 0 := by omega
      exact hs
    | false =>
      obtain ⟨h1, h2⟩ := hQ s hs hd
      obtain ⟨M, h3, h4, h5, h6⟩ := ih (step s) h1 (by omega)
      refine ⟨M + 1, by omega, h4, fun k hk => ?_, fun k hk => ?_⟩
      · cases k with
        | zero => exact hd
        | succ k => exact h5 k (by omega)
      · cases k with
        | zero => exact hs
        | succ k => exact h6 k (by omega)

/-- The document's way: one failing jump after the other. -/
def nextL (p : Pr) (L : List Bool) : List Bool := if failsI p L = -1 then L else L.set (failsI p L).toNat true
def noneL (p : Pr) : List Bool := List.replicate p.items.length false
structure Below1 (p : Pr) (L : List Bool) : Prop where
  ch : Ch p L
  le : ∀ M, Ch p M → Sta p M → Le p L M
theorem below_none (p : Pr) : Below1 p (noneL p) := ⟨ch_none p, fun M _ _ => le_none p M⟩
theorem below_set {p : Pr} (hp : Ok p) {L : List Bool} (h : Below1 p L) {i : Nat} (hi : i < p.items.length) (hf : failB p L i = true) : Below1 p (L.set i true) :=
  ⟨ch_set h.ch hi (fail_jump hi hf).1, fun M hM hs => le_set hp h.ch hM hs (h.le M hM hs) hi hf⟩
theorem ref_ends {p : Pr} (hp : Ok p) : ∃ M, M ≤ p.items.length ∧ failsI p (its (nextL p) M (noneL p)) = -1 ∧ (∀ k, k < M → failsI p (its (nextL p) k (noneL p)) ≠ -1) ∧ ∀ k, k ≤ M → Below1 p (its (nextL p) k (noneL p)) := by
  obtain ⟨M, h1, h2, h3, h4⟩ := ends (nextL p) (fun L => decide (failsI p L = -1)) shorts (Below1 p) (fun L hL hd => by
    have hd : failsI p L ≠ -1 := by simpa using hd
    obtain ⟨j, h1, h2, h3⟩ := fails_some hd
    have e : nextL p L = L.set j true := by rw [nextL, if_neg hd, h1]; rfl
    rw [e]
    refine ⟨below_set hp hL h2 h3, ?_⟩
    have := shorts_set (L := L) (i := j) (by rw [hL.ch.len]; exact h2) (fail_jump h2 h3).2.2
    omega) p.items.length (noneL p) (below_none p) (by simp [shorts, noneL])
  exact ⟨M, h1, by simpa using h2, fun k hk => by simpa using h3 k hk, h4⟩
theorem least_of {p : Pr} {L : List Bool} (h : Below1 p L) (hs : Sta p L) : Least p L := ⟨h.ch, hs, h.le⟩
end Go.En.R40
namespace Go.En.R40

/-- Where the search stands: the choice, the jumps that wait, what stands before them in the row, how often the row was written. -/
structure GS where
  L : List Bool
  q : List Nat
  pre : List Nat
  g : Nat
def want (p : Pr) (L : List Bool) (k : Nat) : Bool := andB (decide (0 ≤ (p.items[k]?.getD default).to)) (!lg L k)
def putK (s : GS) (k : Nat) : GS := if k ∈ s.q then s else ⟨s.L, s.q ++ [k], [], s.g + 1 + (if s.pre.length = 0 then 0 else 1)⟩
def allK (p : Pr) (s : GS) : Nat → GS
  | 0 => s
  | k + 1 => if want p (allK p s k).L k = true then putK (allK p s k) k else allK p s k
def allG (p : Pr) (s : GS) : GS := allK p s p.items.length
def stepG (p : Pr) (s : GS) : GS := match s.q with
  | [] => s
  | i :: r => if failB p s.L i = true then allG p ⟨s.L.set i true, r, s.pre ++ [i], s.g⟩ else ⟨s.L, r, s.pre ++ [i], s.g⟩

theorem nodup_len : ∀ (n : Nat) (l : List Nat), l.Nodup → (∀ x ∈ l, x < n) → l.length ≤ n := by
  intro n
  induction n with
  | zero =>
    intro l _ h
    cases l with
    | nil => simp
    | cons a l => have := h a (by simp); omega
  | succ n ih =>
    intro l hn h
    by_cases hm : n ∈ l
    · have h1 := ih (l.erase n) (hn.erase n) (fun x hx => by
        have h2 := (hn.mem_erase_iff).1 hx
        have := h x h2.2
        have := h2.1
        omega)
      rw [List.length_erase_of_mem hm] at h1
      omega
    · have := ih l hn (fun x hx => by
        have := h x hx
        have : x ≠ n := fun e => hm (e ▸ hx)
        omega)
      omega

structure QOk (p : Pr) (q : List Nat) : Prop where
  jump : ∀ k ∈ q, ∃ h : k < p.items.length, p.items[k].to ≠ -1
  nodup : q.Nodup
theorem QOk.len {p : Pr} {q : List Nat} (h : QOk p q) : q.length ≤ p.items.length := nodup_len _ _ h.nodup fun x hx => (h.jump x hx).1

theorem putK_ok {p : Pr} {s : GS} {k : Nat} (h : QOk p s.q) (hk : k < p.items.length) (hj : p.items[k].to ≠ -1) : (putK s k).L = s.L ∧ QOk p (putK s k).q ∧ k ∈ (putK s k).q ∧ ∀ x ∈ s.q, x ∈ (putK s k).q := by
  unfold putK
  split
  · rename_i hm; exact ⟨rfl, h, hm, fun x hx => hx⟩
  · rename_i hm
    refine ⟨rfl, ⟨fun x hx => ?_, ?_⟩, by simp, fun x hx => by simp [hx]⟩
    · rcases List.mem_append.1 hx with hx | hx
      · exact h.jump x hx
      · obtain rfl : x = k := by simpa using hx
        exact ⟨hk, hj⟩
    · show (s.q ++ [k]).Nodup
      rw [List.nodup_append]
      refine ⟨h.nodup, by simp, fun a ha b hb => ?_⟩
      obtain rfl : b = k := by simpa using hb
      exact fun e => hm (e ▸ ha)
theorem want_jump {p : Pr} {L : List Bool} {k : Nat} (hk : k < p.items.length) (h : want p L k = true) : p.items[k].to ≠ -1 ∧ 0 ≤ p.items[k].to := by
  simp only [want, andB, Bool.and_eq_true, decide_eq_true_eq] at h
  rw [List.getElem?_eq_getElem hk, Option.getD_some] at h
  exact ⟨by omega, h.1⟩
theorem allK_ok {p : Pr} {s : GS} (h : QOk p s.q) : ∀ k, k ≤ p.items.length → (allK p s k).L = s.L ∧ QOk p (allK p s k).q ∧ (∀ x ∈ s.q, x ∈ (allK p s k).q) ∧ ∀ j, j < k → want p s.L j = true → j ∈ (allK p s k).q := by
  intro k
  induction k with
  | zero => intro _; exact ⟨rfl, h, fun x hx => hx, fun j hj => by omega⟩
  | succ k ih =>
    intro hk
    obtain ⟨h1, h2, h3, h4⟩ := ih (by omega)
    simp only [allK]
    split
    · rename_i hw
      obtain ⟨g1, g2, g3, g4⟩ := putK_ok h2 hk (want_jump hk hw).1
      refine ⟨g1.trans h1, g2, fun x hx => g4 x (h3 x hx), fun j hj hwj => ?_⟩
      rcases Nat.lt_or_eq_of_le (Nat.le_of_lt_succ hj) with hj | rfl
      · exact g4 j (h4 j hj hwj)
      · exact g3
    · rename_i hw
      refine ⟨h1, h2, h3, fun j hj hwj => ?_⟩
      rcases Nat.lt_or_eq_of_le (Nat.le_of_lt_succ hj) with hj | rfl
      · exact h4 j hj hwj
      · rw [h1] at hw; exact absurd hwj hw

structure GInv (p : Pr) (s : GS) : Prop where
  below : Below1 p s.L
  q : QOk p s.q
  all : ∀ k, k < p.items.length → failB p s.L k = true → k ∈ s.q
theorem fail_want {p : Pr} {L : List Bool} {k : Nat} (h : failB p L k = true) : want p L k = true := by
  simp only [failB, want, andB, Bool.and_eq_true] at h ⊢
  exact h.1
theorem allG_inv {p : Pr} {s : GS} (hb : Below1 p s.L) (hq : QOk p s.q) : GInv p (allG p s) := by
  obtain ⟨h1, h2, h3, h4⟩ := allK_ok hq p.items.length (Nat.le_refl _)
  refine ⟨?_, h2, fun k hk hf => ?_⟩
  · show Below1 p (allK p s p.items.length).L; rw [h1]; exact hb
  · have hf' : failB p (allK p s p.items.length).L k = true := hf
    rw [h1] at hf'
    exact h4 k hk (fail_want hf')
theorem allG_L {p : Pr} {s : GS} (hq : QOk p s.q) : (allG p s).L = s.L := (allK_ok hq p.items.length (Nat.le_refl _)).1
theorem allG_len {p : Pr} {s : GS} (hq : QOk p s.q) : (allG p s).q.length ≤ p.items.length := (allK_ok hq p.items.length (Nat.le_refl _)).2.1.len

def meas (p : Pr) (s : GS) : Nat := shorts s.L * (p.items.length + 1) + s.q.length
theorem step_inv {p : Pr} (hp : Ok p) {s : GS} (h : GInv p s) (hd : s.q ≠ []) : GInv p (stepG p s) ∧ meas p (stepG p s) < meas p s := by
  obtain ⟨L, q, pre, g⟩ := s
  cases q with
  | nil => exact absurd rfl hd
  | cons i r =>
    obtain ⟨hi, hij⟩ := h.q.jump i (by simp)
    have hr : QOk p r := ⟨fun k hk => h.q.jump k (by simp [hk]), (List.nodup_cons.1 h.q.nodup).2⟩
    simp only [stepG]
    split
    · rename_i hf
      have hb := below_set hp h.below hi hf
      refine ⟨allG_inv (s := ⟨L.set i true, r, pre ++ [i], g⟩) hb hr, ?_⟩
      have h1 := shorts_set (L := L) (i := i) (by have := h.below.ch.len; simp only at this; omega) (fail_jump hi hf).2.2
      have h2 := allG_len (p := p) (s := ⟨L.set i true, r, pre ++ [i], g⟩) hr
      have h3 := allG_L (p := p) (s := ⟨L.set i true, r, pre ++ [i], g⟩) hr
      simp only [meas, h3, List.length_cons]
      rw [← h1, Nat.add_mul]
      omega
    · rename_i hf
      refine ⟨⟨h.below, hr, fun k hk hfk => ?_⟩, ?_⟩
      · have := h.all k hk hfk
        rcases List.mem_cons.1 this with rfl | hm
        · exact absurd hfk hf
        · exact hm
      · simp [meas]

def startG (p : Pr) : GS := allG p ⟨noneL p, [], [], 0⟩
theorem grow_ends {p : Pr} (hp : Ok p) : ∃ M, M ≤ 260000 ∧ (its (stepG p) M (startG p)).q = [] ∧ (∀ k, k < M → (its (stepG p) k (startG p)).q ≠ []) ∧ ∀ k, k ≤ M → GInv p (its (stepG p) k (startG p)) := by
  have h0 : QOk p ([] : List Nat) := ⟨(fun k hk => by cases hk), List.nodup_nil⟩
  have hs : GInv p (startG p) := allG_inv (s := ⟨noneL p, [], [], 0⟩) (below_none p) h0
  have hm : meas p (startG p) ≤ 260000 := by
    have h1 := allG_L (p := p) (s := ⟨noneL p, [], [], 0⟩) h0
    have h2 := allG_len (p := p) (s := ⟨noneL p, [], [], 0⟩) h0
    have hn := hp.n
    have h3 : shorts (noneL p) = p.items.length := by simp [shorts, noneL]
    have h4 : p.items.length * (p.items.length + 1) ≤ 500 * 501 := Nat.mul_le_mul hn (by omega)
    simp only [meas, startG, h1, h3]
    omega
  obtain ⟨M, h1, h2, h3, h4⟩ := ends (stepG p) (fun s => decide (s.q = [])) (meas p) (GInv p) (fun s hs hd => step_inv hp hs (by simpa using hd)) 260000 (startG p) hs hm
  exact ⟨M, h1, by simpa using h2, fun k hk => by simpa using h3 k hk, h4⟩
theorem grow_least {p : Pr} {s : GS} (h : GInv p s) (hq : s.q = []) : Least p s.L := by
  refine least_of h.below fun k hk => ?_
  cases hf : failB p s.L k with
  | false => rfl
  | true => have := h.all k hk hf; rw [hq] at this; cases this
end Go.En.R40
set_option linter.unusedSimpArgs false
set_option maxRecDepth 100000
set_option maxHeartbeats 4000000
namespace Go.En.R40
open Go.Proofs

/-- A jump in its long form that does not reach. -/
def badL (p : Pr) (L : List Bool) (k : Nat) : Bool := andB (lg L k) (!inB (dist p L k) (p.items[k]?.getD default).llow (p.items[k]?.getD default).lhigh)
def solveR (p : Pr) (L : List Bool) : AV := if firstI (badL p L) 0 p.items.length = -1 then tup2 (.p (bools L)) (ai 0) else tup2 nilR (ai 24)

theorem refSolve_bad (n : Nat) (p : Pr) (h1 : p.items.length ≤ 600) (h2 : p.labels.length ≤ 600) (hr : right p = false) : R (n + 2020) 22 [encP p] [] = some (tup2 nilR (ai 8), []) := by
  rw [R_succ _ _ _ _ fs22, enter_eq (fn := Try.f22) rfl rfl rfl (Nat.le_of_ble_eq_true rfl)]
  simp [Right_run, h1, h2, hr]

def itL (p : Pr) (k : Nat) : List Bool := its (nextL p) k (noneL p)
abbrev rowB (L : List Bool) : Obj := .arr 0 1 false (L.map PV.bool)
abbrev boxP (p : Pr) : Obj := .box [.p (encIts p), .p (ints p.labels)]

theorem refSolve_run (n : Nat) (p : Pr) (L : List Bool) (hr : right p = true) (hL : Least p L) : R (n + 2020) 22 [encP p] [] = some (solveR p L, []) := by
  have hp := ok_of hr
  have hn := hp.n
  have h1 : p.items.length ≤ 600 := by omega
  have h2 : p.labels.length ≤ 600 := by have := hp.m; omega
  obtain ⟨M, hM, hM1, hM2, hM3⟩ := ref_ends hp
  have b1 : (p.items.length : Int) ≤ 1099511627776 := by omega
  have eL : itL p M = L := least_unique (least_of (hM3 M (Nat.le_refl _)) (fails_none.1 hM1)) hL
  have hz : itL p 0 = noneL p := rfl
  have hlen : ∀ k, k ≤ M → (itL p k).length = p.items.length := fun k hk => (hM3 k hk).ch.len
  have htake : ∀ k, k ≤ M → ((itL p k).map PV.bool).take p.items.length = (itL p k).map PV.bool := fun k hk => by rw [List.take_of_length_le (by simp [hlen k hk])]
  have hf : ∀ k, k ≤ M → ∀ m, R (m + 2001) 32 [encP p, .p (bools (itL p k))] [] = some (ai (failsI p (itL p k)), []) := fun k hk m => fails_run m p (itL p k) hp (hlen k hk)
  have hf0 := hf 0 (Nat.zero_le _)
  rw [hz] at hf0
  simp only [noneL, bools, List.map_replicate] at hf0
  rw [R_succ _ _ _ _ fs22, enter_eq (fn := Try.f22) rfl rfl rfl (Nat.le_of_ble_eq_true rfl)]
  simp [Right_run, h1, h2, hr, b1, hf0]
  generalize hq : iter _ _ _ _ _ = r
  have := iter_post M (fun k => ⟨[(1, .ref 0 0), (4, .arr 1 0 0 p.items.length), (5, ai (failsI p (itL p k)))], [boxP p, rowB (itL p k)]⟩)
      (fun _ r => r = some (.exit 0, ⟨[(1, .ref 0 0), (4, .arr 1 0 0 p.items.length), (5, ai (-1))], [boxP p, rowB L]⟩)) hq (by omega) (by simp [hz, noneL, rowB]) (by
        intro k hk K hK
        by_cases h : k < M
        · have hK := hK h
          obtain ⟨j, hj1, hj2, hj3⟩ := fails_some (hM2 k h)
          have hj1' : failsI p (itL p k) = (j : Int) := hj1
          have hjl : j < (itL p k).length := by rw [hlen k hk]; exact hj2
          have e : itL p (k + 1) = (itL p k).set j true := by
            show its (nextL p) (k + 1) (noneL p) = _
            rw [its_succ, nextL, if_neg (hM2 k h), hj1]; rfl
          have hf1 := hf (k + 1) h
          have ht1 := htake (k + 1) h
          rw [e] at hf1 ht1 hK
          simp only [rowB, bools, List.map_set] at hf1 ht1 hK
          simp [hj1', hj2, hjl, hlen k hk, hf1, ht1]
          simpa using hK
        · obtain rfl : k = M := by omega
          have : failsI p L = -1 := by rw [← eL]; exact hM1
          simp [this, eL])
  clear hq
  subst this
  have hLl := hL.ch.len
  have ht : (L.map PV.bool).take p.items.length = L.map PV.bool := by rw [List.take_of_length_le (by simp [hLl])]
  simp [Laid_run, hp, hLl, ht]
  generalize hq : iter _ _ _ _ _ = r
  have := iter_post p.items.length (fun k => ⟨[(1, .ref 0 0), (2, .undef), (3, .undef), (4, .arr 1 0 0 p.items.length), (6, .p (ints (laid p L))), (7, ai k)], [boxP p, .arr 0 1 true (L.map PV.bool)]⟩)
      (fun k r => if firstI (badL p L) k (p.items.length - k) = -1 then r = some (.exit 2, ⟨[(1, .ref 0 0), (2, .undef), (3, .undef), (4, .arr 1 0 0 p.items.length), (6, .p (ints (laid p L))), (7, ai p.items.length)], [boxP p, .arr 0 1 true (L.map PV.bool)]⟩)
        else ∃ j, r = some (.ret, ⟨[(1, .ref 0 0), (2, nilR), (3, ai 24), (4, .arr 1 0 0 p.items.length), (6, .p (ints (laid p L))), (7, ai j)], [boxP p, .arr 0 1 true (L.map PV.bool)]⟩)) hq (by omega) (by simp) (by
        intro k hk K hK
        by_cases h : k < p.items.length
        · have hka : k < L.length := by omega
          have w1 : IntKind.i64.wrap ((k : Int) + 1) = (k : Int) + 1 := wrap64 (by omega) (by omega)
          have e0 : p.items.length - k = (p.items.length - (k + 1)) + 1 := by omega
          rw [e0]
          have hK := hK h
          simp only [firstI]
          have hneg : ¬ ((k : Int) = -1) := by omega
          cases hlk : L[k]
          · have hf : badL p L k = false := by simp [badL, lg, hka, hlk]
            simp [h, hka, hLl, getD_map, hlk, hf, w1]
            simpa using hK
          · have hj : p.items[k].to ≠ -1 := hL.ch.jump k h (by simp [hka, hlk])
            cases hd : inB (dist p L k) p.items[k].llow p.items[k].lhigh
            · have hf : badL p L k = true := by simp [badL, lg, h, hka, hlk, hd]
              simp [h, hka, hLl, getD_map, hlk, Dist_run, hp, hj, In_run, hd, hf, hneg]
            · have hf : badL p L k = false := by simp [badL, lg, h, hka, hlk, hd]
              simp [h, hka, hLl, getD_map, hlk, Dist_run, hp, hj, In_run, hd, hf, w1]
              simpa using hK
        · obtain rfl : k = p.items.length := by omega
          simp [firstI])
  clear hq
  simp only [Nat.sub_zero] at this
  unfold solveR
  split at this
  · rename_i h; subst this; rw [if_pos h]; simp [ht, hLl]
  · rename_i h; obtain ⟨j, rfl⟩ := this; rw [if_neg h]; simp
end Go.En.R40
set_option linter.unusedSimpArgs false
set_option maxRecDepth 100000
set_option maxHeartbeats 4000000
namespace Go.En.R40
open Go.Proofs

abbrev ent (k : Nat) : PV × PV := (i64 k, .bool true)
theorem keys_ent (q : List Nat) : keysOk (.int .i64) (q.map ent) = true := by
  simp only [keysOk, List.all_map, List.all_eq_true]
  intro x _; simp [keyOk]
theorem eqC_nat (k j : Nat) : eqC (i64 k) (i64 j) = some (decide (k = j)) := by
  simp only [eqC, if_true]
  congr 1
  by_cases h : k = j
  · subst h; simp
  · have : ¬ ((k : Int) = j) := by omega
    simp [h, this]
theorem mget_ent (k : Nat) : ∀ q : List Nat, mget (i64 k) (q.map ent) = some (if k ∈ q then some (.bool true) else none) := by
  intro q
  induction q with
  | nil => simp [mget]
  | cons j q ih =>
    simp only [List.map_cons, mget, eqC_nat, Option.bind_some, ih]
    by_cases h : k = j
    · subst h; simp
    · simp [h]
theorem mput_ent (k : Nat) : ∀ q : List Nat, k ∉ q → mput (i64 k) (.bool true) (q.map ent) = some ((q ++ [k]).map ent) := by
  intro q
  induction q with
  | nil => intro _; simp [mput]
  | cons j q ih =>
    intro h
    have h1 : k ≠ j := fun e => h (by simp [e])
    have h2 : k ∉ q := fun e => h (by simp [e])
    simp only [List.map_cons, mput, eqC_nat, Option.bind_some, ih h2]
    simp [h1]
theorem mdel_ent (k : Nat) (q : List Nat) : mdel (i64 k) ((k :: q).map ent) = some (q.map ent) := by
  simp only [List.map_cons, mdel, eqC_nat, Option.bind_some]
  simp
theorem mapDesc66 : mapDesc T 66 = some (.int .i64, ⟨.bool, 1, 1, [.bool false]⟩) := rfl
theorem look_ent (h : Hp) (id k : Nat) (q : List Nat) (hm : h.at id = .map (q.map ent)) : lookupV T h 66 (.map id) (ai k) false = ⟨ab (decide (k ∈ q)), true⟩ := by
  have h1 : keyOk (.int .i64) (i64 k) = true := by simp [keyOk]
  have h2 := keys_ent q
  have h3 : (keyOk (.int .i64) (i64 k) = true ∧ keysOk (.int .i64) (q.map ent) = true ∧ isAggD .bool = false) := ⟨h1, h2, rfl⟩
  simp only [lookupV, mapDesc66, hm, if_pos h3, mget_ent]
  by_cases h : k ∈ q <;> simp [h]
theorem upd_ent (h : Hp) (id k : Nat) (q : List Nat) (hm : h.at id = .map (q.map ent)) (hk : k ∉ q) : mupC T h 66 (.map id) (ai k) (ab true) = some (h.set id (.map ((q ++ [k]).map ent)), .undef) := by
  have h3 : (keyOk (.int .i64) (i64 k) = true ∧ keysOk (.int .i64) (q.map ent) = true ∧ (AV.p (.bool true)).one = true) := ⟨by simp [keyOk], keys_ent q, rfl⟩
  simp only [mupC, mapDesc66, hm, if_pos h3, mput_ent k q hk]
  rfl
theorem del_ent (h : Hp) (id k : Nat) (q : List Nat) (hm : h.at id = .map ((k :: q).map ent)) : delC T h 66 (.map id) (ai k) = some (h.set id (.map (q.map ent)), .tup []) := by
  have h3 : (keyOk (.int .i64) (i64 k) = true ∧ keysOk (.int .i64) ((k :: q).map ent) = true) := ⟨by simp [keyOk], keys_ent _⟩
  simp only [delC, mapDesc66, hm, if_pos h3, mdel_ent]
  rfl

abbrev mapO1 (q : List Nat) : Obj := .map (q.map ent)
abbrev rowQ (s : GS) : Obj := .arr s.g 1 false ((s.pre ++ s.q).map fun (k : Nat) => i64 k)
abbrev hpG (p : Pr) (s : GS) : Hp :=
  [boxP p, rowB s.L, boxP p, .box [.arr 1 0 0 p.items.length], mapO1 s.q, rowQ s, .box [.arr 5 s.g s.pre.length s.q.length, .map 4], .box [.ref 6 0]]

theorem drop_pre {α β : Type} (f : α → β) (a b : List α) : List.drop a.length (a.map f ++ b.map f) = b.map f := by
  rw [List.drop_append_of_le_length (by simp), List.drop_of_length_le (by simp), List.nil_append]

theorem put_run (n : Nat) (p : Pr) (s : GS) (k : Nat) (o : Obj) (hq : s.q.length ≤ 1000) : R (n + 2) 42 [.ref 6 0, ai k] (hpG p s ++ [o]) = some (.tup [], hpG p (putK s k) ++ [lowO 9 o]) := by
  obtain ⟨L, q, pre, g⟩ := s
  have hq : q.length ≤ 1000 := hq
  have h1 := look_ent (hpG p ⟨L, q, pre, g⟩ ++ [o]) 4 k q rfl
  simp only [hpG, List.cons_append, List.nil_append] at h1
  rw [R_succ _ _ _ _ fs42, enter_eq (fn := Try.f42) rfl rfl rfl (Nat.le_of_ble_eq_true rfl)]
  by_cases hk : k ∈ q
  · simp [h1, hk, putK]
  · have h2 := upd_ent (hpG p ⟨L, q, pre, g⟩ ++ [o]) 4 k q rfl hk
    simp only [hpG, List.cons_append, List.nil_append] at h2
    have b1 : (q.length + 1) * 8 ≤ 1099511627776 := by omega
    have b2 : q.length + 1 ≤ 1099511627776 := by omega
    have b3 : q.length ≤ 1099511627775 := by omega
    simp [h1, h2, hk, putK, b1, b2, b3, drop_pre]

theorem take_run (n : Nat) (p : Pr) (L : List Bool) (i : Nat) (r pre : List Nat) (g : Nat) : R (n + 2) 43 [.ref 6 0] (hpG p ⟨L, i :: r, pre, g⟩) = some (ai i, hpG p ⟨L, r, pre ++ [i], g⟩) := by
  have h1 := fun (a b c d e f x : Obj) => del_ent [a, b, c, d, mapO1 (i :: r), e, f, x] 4 i r rfl
  have b1 : (1 : Int) ≤ (r.length : Int) + 1 := by omega
  rw [R_succ _ _ _ _ fs43, enter_eq (fn := Try.f43) rfl rfl rfl (Nat.le_of_ble_eq_true rfl)]
  simp [h1, b1]

theorem all_run (n : Nat) (p : Pr) (s : GS) (hp : Ok p) (hq : QOk p s.q) (hl : s.L.length = p.items.length) : R (n + 1000) 41 [.ref 2 0, .ref 3 0, .ref 7 0] (hpG p s) = some (.tup [], hpG p (allG p s)) := by
  have hn := hp.n
  have e0 : s = allK p s 0 := rfl
  rw [R_succ _ _ _ _ fs41, enter_eq (fn := Try.f41) rfl rfl rfl (Nat.le_of_ble_eq_true rfl)]
  simp
  generalize hr : iter _ _ _ _ _ = r
  have := iter_post p.items.length (fun k => ⟨[(1, .ref 3 0), (2, .ref 7 0), (6, .p (encIts p)), (7, ai p.items.length), (8, ai k)], hpG p (allK p s k)⟩)
      (fun _ r => r = some (.exit 0, ⟨[(1, .ref 3 0), (2, .ref 7 0), (6, .p (encIts p)), (7, ai p.items.length), (8, ai p.items.length)], hpG p (allG p s)⟩)) hr (by omega) (by simp [allK]) (by
        intro k hk K hK
        by_cases h : k < p.items.length
        · have hK := hK h
          obtain ⟨hL, hqk, _, _⟩ := allK_ok hq k hk
          have hql := hqk.len
          have hlk : (allK p s k).L.length = p.items.length := by rw [hL]; exact hl
          have hkl : k < (allK p s k).L.length := by omega
          have w1 : IntKind.i64.wrap ((k : Int) + 1) = (k : Int) + 1 := wrap64 (by omega) (by omega)
          have hput := fun m o => put_run m p (allK p s k) k o (by omega)
          simp only [hpG, List.cons_append, List.nil_append] at hput
          simp only [allK] at hK
          generalize allK p s k = t at *
          by_cases ht : 0 ≤ p.items[k].to
          · cases hlg : t.L[k]
            · have hw : want p t.L k = true := by simp [want, lg, h, hkl, ht, hlg]
              rw [if_pos hw] at hK
              simp [h, hkl, hlk, getD_map, ht, hlg, hput, w1]

              simpa [hpG, rowQ] using hK
            · have hw : want p t.L k = false := by simp [want, lg, h, hkl, ht, hlg]
              rw [if_neg (by simp [hw])] at hK
              simp [h, hkl, hlk, getD_map, ht, hlg, w1]
              simpa [hpG, rowQ] using hK
          · have hw : want p t.L k = false := by simp [want, h, ht]
            rw [if_neg (by simp [hw])] at hK
            cases hlg : t.L[k]
            · simp [h, hkl, hlk, getD_map, ht, hlg, w1]
              simpa [hpG, rowQ] using hK
            · simp [h, hkl, hlk, getD_map, ht, hlg, w1]
              simpa [hpG, rowQ] using hK
        · obtain rfl : k = p.items.length := by omega
          simp [allG])
  clear hr
  subst this
  simp
end Go.En.R40
set_option linter.unusedSimpArgs false
set_option maxRecDepth 100000
set_option maxHeartbeats 4000000
namespace Go.En.R40
open Go.Proofs

def gs (p : Pr) (k : Nat) : GS := its (stepG p) k (startG p)
abbrev tmG (p : Pr) (L : List Bool) : Tm := [(2, .ref 2 0), (3, .ref 3 0), (5, .ref 7 0), (6, .fn 41 [.ref 2 0, .ref 3 0, .ref 7 0]), (7, .p (ints (laid p L)))]
theorem take_bools {p : Pr} {L : List Bool} (h : L.length = p.items.length) : (L.map PV.bool).take p.items.length = L.map PV.bool := by rw [List.take_of_length_le (by simp [h])]

theorem grow_run (n : Nat) (hn3 : 297000 ≤ n) (p : Pr) (L : List Bool) (hp : Ok p) (hL : Least p L) : R (n + 3000) 35 [encP p, .arr 1 0 0 p.items.length] [boxP p, rowB (noneL p)] = some (.arr 1 0 0 p.items.length, [boxP p, rowB L]) := by
  have hn := hp.n
  obtain ⟨M, hM, hM1, hM2, hM3⟩ := grow_ends hp
  have hM1 : (gs p M).q = [] := hM1
  have hM2 : ∀ k, k < M → (gs p k).q ≠ [] := hM2
  have hM3 : ∀ k, k ≤ M → GInv p (gs p k) := hM3
  have eL : (gs p M).L = L := least_unique (grow_least (hM3 M (Nat.le_refl _)) hM1) hL
  have h0 : QOk p ([] : List Nat) := ⟨(fun k hk => by cases hk), List.nodup_nil⟩
  have ha := all_run (n + 1999) p ⟨noneL p, [], [], 0⟩ hp h0 (by simp [noneL])
  have es : allG p ⟨noneL p, [], [], 0⟩ = gs p 0 := rfl
  rw [es] at ha
  simp only [hpG, rowQ, List.nil_append, List.map_nil, List.length_nil, mapO1] at ha
  have l0 : (gs p 0).L.length = p.items.length := (hM3 0 (Nat.zero_le _)).below.ch.len
  have t0 := take_bools l0
  have hpl := fun m => places_run m p (gs p 0).L hp l0
  rw [R_succ _ _ _ _ fs35, enter_eq (fn := Try.f35) rfl rfl rfl (Nat.le_of_ble_eq_true rfl)]
  simp [ha, l0, t0, hpl]
  generalize hr : iter _ _ _ _ _ = r
  have := iter_post M (fun k => ⟨tmG p (gs p k).L, hpG p (gs p k)⟩)
      (fun _ r => ∃ t, r = some (.exit 0, ⟨[(2, .ref 2 0), (3, .ref 3 0), (5, .ref 7 0), (6, .fn 41 [.ref 2 0, .ref 3 0, .ref 7 0]), (7, t)], hpG p (gs p M)⟩)) hr (by omega) (by simp) (by
        intro k hk K hK
        by_cases h : k < M
        · have hK := hK h
          have hinv := hM3 k hk
          have hq := hM2 k h
          have eS : gs p (k + 1) = stepG p (gs p k) := its_succ _ _ _
          rw [eS] at hK
          revert hinv hq hK
          generalize gs p k = s
          obtain ⟨L1, q, pre, g⟩ := s
          intro hK hinv hq
          cases q with
          | nil => exact absurd rfl hq
          | cons i rr =>
            obtain ⟨hi, hij⟩ := hinv.q.jump i (by simp)
            have hrr : QOk p rr := ⟨fun k hk => hinv.q.jump k (by simp [hk]), (List.nodup_cons.1 hinv.q.nodup).2⟩
            have l1 : L1.length = p.items.length := hinv.below.ch.len
            have hil : i < L1.length := by omega
            have hto : 0 ≤ p.items[i].to := (hp.to i hi hij).1
            have htk := fun m => take_run m p L1 i rr pre g
            simp only [hpG] at htk
            have b1 : (0 : Int) < (rr.length : Int) + 1 := by omega
            have t1 := take_bools l1
            simp only [stepG] at hK
            cases hlg : L1[i]
            · cases hd : inB (dist p L1 i) p.items[i].low p.items[i].high
              · have hf : failB p L1 i = true := by simp [failB, hi, hil, hto, hlg, hd]
                rw [if_pos hf] at hK
                have l2 : (L1.set i true).length = p.items.length := by simp [l1]
                have t2 := take_bools l2
                have hp2 := fun m => places_run m p (L1.set i true) hp l2
                have ha2 := fun m => all_run m p ⟨L1.set i true, rr, pre ++ [i], g⟩ hp hrr l2
                simp only [hpG, rowB, rowQ, bools, List.map_set, List.length_append, List.length_cons, List.length_nil, Nat.zero_add] at ha2 hp2 t2
                have hL2 : (allG p ⟨L1.set i true, rr, pre ++ [i], g⟩).L = L1.set i true := allG_L hrr
                simp [htk, b1, l1, hil, hi, hlg, reaches_run, hp, hij, hd, t1, t2, hp2, ha2]
                simp only [tmG, hL2] at hK

                simpa [hpG, rowQ] using hK
              · have hf : failB p L1 i = false := by simp [failB, hi, hil, hto, hlg, hd]
                rw [if_neg (by simp [hf])] at hK
                simp [htk, b1, l1, hil, hi, hlg, reaches_run, hp, hij, hd]
                simpa [hpG, rowQ] using hK
            · have hf : failB p L1 i = false := by simp [failB, hi, hil, hto, hlg]
              rw [if_neg (by simp [hf])] at hK
              simp [htk, b1, l1, hil, hi, hlg, reaches_run, hp, hij]
              simpa [hpG, rowQ] using hK
        · obtain rfl : k = M := by omega
          simp [hM1])
  clear hr
  obtain ⟨t, rfl⟩ := this
  simp [eL]

theorem Solve_bad (n : Nat) (p : Pr) (h1 : p.items.length ≤ 600) (h2 : p.labels.length ≤ 600) (hr : right p = false) : R (n + 3010) 21 [encP p] [] = some (tup2 nilR (ai 8), []) := by
  rw [R_succ _ _ _ _ fs21, enter_eq (fn := Try.f21) rfl rfl rfl (Nat.le_of_ble_eq_true rfl)]
  simp [Check_run, h1, h2, hr]

theorem Solve_run (n : Nat) (hn3 : 297000 ≤ n) (p : Pr) (L : List Bool) (hr : right p = true) (hL : Least p L) : R (n + 3010) 21 [encP p] [] = some (solveR p L, []) := by
  have hp := ok_of hr
  have hn := hp.n
  have h1 : p.items.length ≤ 600 := by omega
  have h2 : p.labels.length ≤ 600 := by have := hp.m; omega
  have hg : R (n + 3009) 35 [encP p, .arr 1 0 0 p.items.length] [boxP p, rowB (noneL p)] = some (.arr 1 0 0 p.items.length, [boxP p, rowB L]) := grow_run (n + 9) (by omega) p L hp hL
  simp only [rowB, noneL, List.map_replicate] at hg
  have b1 : (p.items.length : Int) ≤ 1099511627776 := by omega
  have hLl := hL.ch.len
  have ht := take_bools hLl
  rw [R_succ _ _ _ _ fs21, enter_eq (fn := Try.f21) rfl rfl rfl (Nat.le_of_ble_eq_true rfl)]
  simp [Check_run, h1, h2, hr, hg, b1, hLl, ht, places_run, hp]
  generalize hq : iter _ _ _ _ _ = r
  have := iter_post p.items.length (fun k => ⟨[(1, .ref 0 0), (2, nilR), (3, ai 0), (5, .arr 1 0 0 p.items.length), (6, .p (ints (laid p L))), (23, .arr 1 0 0 p.items.length), (24, ai p.items.length), (25, ai k)], [boxP p, rowB L]⟩)
      (fun k r => if firstI (badL p L) k (p.items.length - k) = -1 then r = some (.exit 0, ⟨[(1, .ref 0 0), (2, nilR), (3, ai 0), (5, .arr 1 0 0 p.items.length), (6, .p (ints (laid p L))), (23, .arr 1 0 0 p.items.length), (24, ai p.items.length), (25, ai p.items.length)], [boxP p, rowB L]⟩)
        else ∃ j, r = some (.ret, ⟨[(1, .ref 0 0), (2, nilR), (3, ai 24), (5, .arr 1 0 0 p.items.length), (6, .p (ints (laid p L))), (23, .arr 1 0 0 p.items.length), (24, ai p.items.length), (25, ai j)], [boxP p, rowB L]⟩)) hq (by omega) (by simp) (by
        intro k hk K hK
        by_cases h : k < p.items.length
        · have hka : k < L.length := by omega
          have w1 : IntKind.i64.wrap ((k : Int) + 1) = (k : Int) + 1 := wrap64 (by omega) (by omega)
          have e0 : p.items.length - k = (p.items.length - (k + 1)) + 1 := by omega
          rw [e0]
          have hK := hK h
          simp only [firstI]
          have hneg : ¬ ((k : Int) = -1) := by omega
          cases hlk : L[k]
          · have hf : badL p L k = false := by simp [badL, lg, hka, hlk]
            simp [h, hka, hLl, getD_map, hlk, hf, w1]
            simpa using hK
          · have hj : p.items[k].to ≠ -1 := hL.ch.jump k h (by simp [hka, hlk])
            cases hd : inB (dist p L k) p.items[k].llow p.items[k].lhigh
            · have hf : badL p L k = true := by simp [badL, lg, h, hka, hlk, hd]
              simp [h, hka, hLl, getD_map, hlk, reaches_run, hp, hj, hd, hf, hneg]
            · have hf : badL p L k = false := by simp [badL, lg, h, hka, hlk, hd]
              simp [h, hka, hLl, getD_map, hlk, reaches_run, hp, hj, hd, hf, w1]
              simpa using hK
        · obtain rfl : k = p.items.length := by omega
          simp [firstI])
  clear hq
  simp only [Nat.sub_zero] at this
  unfold solveR
  split at this
  · rename_i h; subst this; rw [if_pos h]; simp [ht, hLl]
  · rename_i h; obtain ⟨j, rfl⟩ := this; rw [if_neg h]; simp
end Go.En.R40
set_option linter.unusedSimpArgs false
set_option maxRecDepth 100000
set_option maxHeartbeats 4000000
namespace Go.En.R40
open Go.Proofs

theorem alive_run (n : Nat) : R (n + 1000) 23 [] [] = some (.p (.bool true), []) := by kernel_rfl
theorem at_of {P : Nat → Prop} (k N : Nat) (h : ∀ n, P (n + k)) (hN : k ≤ N) : P N := by
  have := h (N - k)
  rwa [Nat.sub_add_cancel hN] at this
theorem Great_at (N : Nat) (hN : 1 ≤ N) : ∀ p : Pr, R N 12 [encP p] [] = some (ab (great p), []) := at_of (P := fun N => ∀ p : Pr, R N 12 [encP p] [] = some (ab (great p), [])) 1 N Great_run hN
theorem Check_at (N : Nat) (hN : 2000 ≤ N) : ∀ p : Pr, p.items.length ≤ 600 → p.labels.length ≤ 600 → R N 18 [encP p] [] = some (ai (if right p then 0 else 8), []) :=
  at_of (P := fun N => ∀ p : Pr, p.items.length ≤ 600 → p.labels.length ≤ 600 → R N 18 [encP p] [] = some (ai (if right p then 0 else 8), [])) 2000 N Check_run hN
theorem Places_at (N : Nat) (hN : 2020 ≤ N) : ∀ (p : Pr) (L : List Bool), p.items.length ≤ 600 → p.labels.length ≤ 600 → L.length ≤ 600 → R N 13 [encP p, .p (bools L)] [] = some (placesR p L, []) :=
  at_of (P := fun N => ∀ (p : Pr) (L : List Bool), p.items.length ≤ 600 → p.labels.length ≤ 600 → L.length ≤ 600 → R N 13 [encP p, .p (bools L)] [] = some (placesR p L, [])) 2020 N Places_run hN
theorem Stable_at (N : Nat) (hN : 2020 ≤ N) : ∀ (p : Pr) (L : List Bool), p.items.length ≤ 600 → p.labels.length ≤ 600 → L.length ≤ 600 → R N 15 [encP p, .p (bools L)] [] = some (stableR p L, []) :=
  at_of (P := fun N => ∀ (p : Pr) (L : List Bool), p.items.length ≤ 600 → p.labels.length ≤ 600 → L.length ≤ 600 → R N 15 [encP p, .p (bools L)] [] = some (stableR p L, [])) 2020 N Stable_run hN
theorem SameBools_at (N : Nat) (hN : 2000 ≤ N) : ∀ a b : List Bool, a.length ≤ 1000 → b.length ≤ 1000 → R N 20 [.p (bools a), .p (bools b)] [] = some (ab (decide (a = b)), []) :=
  at_of (P := fun N => ∀ a b : List Bool, a.length ≤ 1000 → b.length ≤ 1000 → R N 20 [.p (bools a), .p (bools b)] [] = some (ab (decide (a = b)), [])) 2000 N SameBools_run hN
theorem SameBools_nil_at (N : Nat) (hN : 2000 ≤ N) : R N 20 [nilR, nilR] [] = some (ab true, []) := at_of (P := fun N => R N 20 [nilR, nilR] [] = some (ab true, [])) 2000 N SameBools_nil hN
theorem alive_at (N : Nat) (hN : 1000 ≤ N) : R N 23 [] [] = some (ab true, []) := at_of (P := fun N => R N 23 [] [] = some (ab true, [])) 1000 N alive_run hN
theorem refSolve_bad_at (N : Nat) (hN : 2020 ≤ N) : ∀ p : Pr, p.items.length ≤ 600 → p.labels.length ≤ 600 → right p = false → R N 22 [encP p] [] = some (tup2 nilR (ai 8), []) :=
  at_of (P := fun N => ∀ p : Pr, p.items.length ≤ 600 → p.labels.length ≤ 600 → right p = false → R N 22 [encP p] [] = some (tup2 nilR (ai 8), [])) 2020 N refSolve_bad hN
theorem refSolve_at (N : Nat) (hN : 2020 ≤ N) : ∀ (p : Pr) (L : List Bool), right p = true → Least p L → R N 22 [encP p] [] = some (solveR p L, []) :=
  at_of (P := fun N => ∀ (p : Pr) (L : List Bool), right p = true → Least p L → R N 22 [encP p] [] = some (solveR p L, [])) 2020 N refSolve_run hN
theorem Solve_bad_at (N : Nat) (hN : 3010 ≤ N) : ∀ p : Pr, p.items.length ≤ 600 → p.labels.length ≤ 600 → right p = false → R N 21 [encP p] [] = some (tup2 nilR (ai 8), []) :=
  at_of (P := fun N => ∀ p : Pr, p.items.length ≤ 600 → p.labels.length ≤ 600 → right p = false → R N 21 [encP p] [] = some (tup2 nilR (ai 8), [])) 3010 N Solve_bad hN
theorem Solve_at (N : Nat) (hN : 300010 ≤ N) (p : Pr) (L : List Bool) (hr : right p = true) (hL : Least p L) : R N 21 [encP p] [] = some (solveR p L, []) := by
  have := Solve_run (N - 3010) (by omega) p L hr hL
  rwa [Nat.sub_add_cancel (by omega)] at this
theorem has_least {p : Pr} (hr : right p = true) : ∃ L, Least p L := by
  obtain ⟨M, _, h1, _, h2⟩ := ref_ends (ok_of hr)
  exact ⟨_, least_of (h2 M (Nat.le_refl _)) (fails_none.1 h1)⟩

theorem Solves_run (n : Nat) (hn3 : 301000 ≤ n) (p : Pr) : R (n + 1) 4 [encP p] [] = some (ab true, []) := by
  have fG := Great_at n (by omega)
  have fC := Check_at n (by omega)
  have fP := Places_at n (by omega)
  have fS := Stable_at n (by omega)
  have fB := SameBools_at n (by omega)
  have fBn := SameBools_nil_at n (by omega)
  have fA := alive_at n (by omega)
  have fSb := Solve_bad_at n (by omega)
  have fRb := refSolve_bad_at n (by omega)
  rw [R_succ _ _ _ _ fs4, enter_eq (fn := Try.f4) rfl rfl rfl (Nat.le_of_ble_eq_true rfl)]
  cases hg : great p
  case true => simp [fG, hg]
  obtain ⟨h1, h2⟩ := great_le hg
  cases hr : right p
  · simp [fG, hg, fSb, fRb, hr, h1, h2, fBn]
  · obtain ⟨L, hL⟩ := has_least hr
    have hs1 := Solve_at n (by omega) p L hr hL
    have hs2 := refSolve_at n (by omega) p L hr hL
    have hll : L.length ≤ 1000 := by rw [hL.ch.len]; omega
    by_cases hb : firstI (badL p L) 0 p.items.length = -1
    · simp [fG, hg, hs1, hs2, hr, hL, h1, h2, solveR, hb, fB, hll]
    · simp [fG, hg, hs1, hs2, hr, hL, h1, h2, solveR, hb, fBn]
end Go.En.R40
set_option linter.unusedSimpArgs false
set_option maxRecDepth 100000
set_option maxHeartbeats 4000000
namespace Go.En.R40
open Go.Proofs

/-- Item by item one layout is no wider than the other. -/
def Sub (p : Pr) (L : List Bool) (q : Pr) (M : List Bool) : Prop := ∀ k, k < p.items.length →
  0 ≤ szB (p.items[k]?.getD default) (lg L k) ∧ szB (p.items[k]?.getD default) (lg L k) ≤ szB (q.items[k]?.getD default) (lg M k)
theorem Sub.trans {p q r : Pr} {L M N : List Bool} (h1 : Sub p L q M) (h2 : Sub q M r N) (hn : p.items.length = q.items.length) : Sub p L r N :=
  fun k hk => ⟨(h1 k hk).1, Int.le_trans (h1 k hk).2 (h2 k (by omega)).2⟩
theorem sub_pos {p q : Pr} {L M : List Bool} (h : Sub p L q M) : ∀ d a, a + d ≤ p.items.length → 0 ≤ pos p L (a + d) - pos p L a ∧ pos p L (a + d) - pos p L a ≤ pos q M (a + d) - pos q M a := by
  intro d
  induction d with
  | zero => intro a _; simp
  | succ d ih =>
    intro a ha
    have h1 := ih a (by omega)
    have h2 := h (a + d) (by omega)
    have e1 : pos p L (a + (d + 1)) = pos p L (a + d) + szB (p.items[a + d]?.getD default) (lg L (a + d)) := rfl
    have e2 : pos q M (a + (d + 1)) = pos q M (a + d) + szB (q.items[a + d]?.getD default) (lg M (a + d)) := rfl
    rw [e1, e2]
    omega
theorem sub_le {p : Pr} (hp : Ok p) {L M : List Bool} (hM : Ch p M) (hle : Le p L M) : Sub p L p M := by
  intro k hk
  have hs := hp.size _ hk
  have hl := hp.long _ hk
  have hm := hM.jump _ hk
  have hj := hp.to _ hk
  have hle' := hle _ hk
  simp only [List.getElem?_eq_getElem hk, Option.getD_some, szB]
  cases hL : lg L k <;> cases hMk : lg M k
  · simp; omega
  · have := (hj (hm hMk)).2.2.1; simp; omega
  · have := hle' hL; rw [hMk] at this; cases this
  · simp; omega
theorem sub_dist {p q : Pr} (hp : Ok p) {L M : List Bool} (h : Sub p L q M) (hl : q.labels = p.labels) {k : Nat} (hk : k < p.items.length) (hj : p.items[k].to ≠ -1)
    (ht : (q.items[k]?.getD default : It).to = p.items[k].to) : (0 ≤ dist p L k ∧ dist p L k ≤ dist q M k) ∨ (dist q M k ≤ dist p L k ∧ dist p L k ≤ 0) := by
  have hj := hp.to k hk hj
  have hlt : p.items[k].to.toNat < p.labels.length := by omega
  have hlab := hp.lab _ hlt
  have eL : dist p L k = pos p L (p.labels[p.items[k].to.toNat]).toNat - pos p L (k + 1) := by
    simp [dist, List.getElem?_eq_getElem hk, List.getElem?_eq_getElem hlt]
  have eM : dist q M k = pos q M (p.labels[p.items[k].to.toNat]).toNat - pos q M (k + 1) := by
    simp [dist, ht, hl, List.getElem?_eq_getElem hlt]
  generalize htt : (p.labels[p.items[k].to.toNat]).toNat = t at *
  have htn : t ≤ p.items.length := by omega
  rw [eL, eM]
  rcases Nat.le_total (k + 1) t with hc | hc
  · obtain ⟨d, rfl⟩ := Nat.exists_eq_add_of_le hc
    have := sub_pos h d (k + 1) (by omega)
    omega
  · obtain ⟨d, hd⟩ := Nat.exists_eq_add_of_le hc
    have := sub_pos h d t (by omega)
    rw [← hd] at this
    omega

/-- An item so much longer. -/
def growIt (m : Int) (x : It) : It := ⟨IntKind.i64.wrap (x.size + m), if 0 ≤ x.to then IntKind.i64.wrap (x.long + m) else x.long, x.to, x.low, x.high, x.llow, x.lhigh⟩
def growP (p : Pr) (w : Nat) (m : Int) : Pr := ⟨p.items.set w (growIt m (p.items[w]?.getD default)), p.labels⟩
theorem grow_get {p : Pr} {w : Nat} (m : Int) (hw : w < p.items.length) (k : Nat) : (growP p w m).items[k]?.getD default = if k = w then growIt m (p.items[k]?.getD default) else p.items[k]?.getD default := by
  simp only [growP, List.getElem?_set]
  by_cases h : w = k
  · subst h; simp [hw]
  · simp [h, Ne.symm h]
theorem grow_len (p : Pr) (w : Nat) (m : Int) : (growP p w m).items.length = p.items.length := by simp [growP]
theorem grow_sub {p : Pr} (hp : Ok p) {w : Nat} {m : Int} (hw : w < p.items.length) (h0 : 0 ≤ m) (h1 : m ≤ 1000) (L : List Bool) : Sub p L (growP p w m) L := by
  intro k hk
  have hs := hp.size _ hk
  have hl := hp.long _ hk
  rw [grow_get m hw]
  simp only [List.getElem?_eq_getElem hk, Option.getD_some, szB]
  by_cases h : k = w
  · have w1 : IntKind.i64.wrap (p.items[k].size + m) = p.items[k].size + m := wrap64 (by omega) (by omega)
    have w2 : IntKind.i64.wrap (p.items[k].long + m) = p.items[k].long + m := wrap64 (by omega) (by omega)
    rw [if_pos h]
    simp only [growIt, w1, w2]
    cases lg L k
    · simp; omega
    · by_cases ht : 0 ≤ p.items[k].to
      · simp [ht]; omega
      · simp [ht]; omega
  · rw [if_neg h]
    cases lg L k <;> simp <;> omega
theorem grow_law {p : Pr} (hr : right p = true) {w : Nat} {m : Int} (hw : w < p.items.length) (h0 : 0 ≤ m) (h1 : m ≤ 1000) {L M : List Bool} (hL : Least p L) (hM : Least (growP p w m) M) :
    Le p L M ∧ (firstI (badL (growP p w m) M) 0 (growP p w m).items.length = -1 → firstI (badL p L) 0 p.items.length = -1) := by
  have hp := ok_of hr
  have ft : ∀ k : Nat, ((growP p w m).items[k]?.getD default : It).to = (p.items[k]?.getD default : It).to ∧ ((growP p w m).items[k]?.getD default : It).low = (p.items[k]?.getD default : It).low ∧ ((growP p w m).items[k]?.getD default : It).high = (p.items[k]?.getD default : It).high ∧
      ((growP p w m).items[k]?.getD default : It).llow = (p.items[k]?.getD default : It).llow ∧ ((growP p w m).items[k]?.getD default : It).lhigh = (p.items[k]?.getD default : It).lhigh := by
    intro k
    rw [grow_get m hw]
    split <;> simp [growIt]
  have hc : Ch p M := by
    refine ⟨by rw [hM.ch.len, grow_len], fun k hk hl => ?_⟩
    have hk' : k < (growP p w m).items.length := by rw [grow_len]; exact hk
    have := hM.ch.jump k hk' hl
    have e := (ft k).1
    rw [List.getElem?_eq_getElem hk', List.getElem?_eq_getElem hk, Option.getD_some, Option.getD_some] at e
    rwa [e] at this
  have hs : Sta p M := by
    intro k hk
    have hk' : k < (growP p w m).items.length := by rw [grow_len]; exact hk
    have hq := hM.sta k hk'
    cases hf : failB p M k with
    | false => rfl
    | true =>
      obtain ⟨hj, hj0, hlk⟩ := fail_jump hk hf
      have hd := sub_dist hp (grow_sub hp hw h0 h1 M) rfl hk hj (by rw [(ft k).1, List.getElem?_eq_getElem hk, Option.getD_some])
      have hb := hp.to k hk hj
      simp only [failB, (ft k).1, (ft k).2.1, (ft k).2.2.1, hlk, List.getElem?_eq_getElem hk, Option.getD_some, hj0, decide_true, Bool.not_false, andB] at hq hf
      simp only [Bool.true_and, Bool.and_true, Bool.not_eq_true', Bool.not_eq_false', if_true] at hq hf
      have hq := inB_iff.1 hq
      rw [← Bool.not_eq_true, inB_iff] at hf
      exfalso; omega
  have hle := hL.le M hc hs
  refine ⟨hle, fun hb => ?_⟩
  rw [firstI_none] at hb ⊢
  intro k _ hk
  have hk : k < p.items.length := by omega
  have hq := hb k (Nat.zero_le _) (by rw [grow_len]; omega)
  cases hf : badL p L k with
  | false => rfl
  | true =>
    simp only [badL, andB, Bool.and_eq_true, Bool.not_eq_true'] at hf
    obtain ⟨hlk, hf⟩ := hf
    have hmk := hle k hk hlk
    have hj := hL.ch.jump k hk hlk
    have hd := sub_dist hp ((sub_le hp hc hle).trans (grow_sub hp hw h0 h1 M) rfl) rfl hk hj (by rw [(ft k).1, List.getElem?_eq_getElem hk, Option.getD_some])
    have hb := hp.to k hk hj
    simp only [badL, andB, hmk, (ft k).2.2.2.1, (ft k).2.2.2.2, List.getElem?_eq_getElem hk, Option.getD_some] at hq hf
    simp only [Bool.true_and, Bool.not_eq_false', if_true] at hq
    have hq := inB_iff.1 hq
    rw [← Bool.not_eq_true, inB_iff] at hf
    exfalso; omega

/-- An item with the greatest ranges. -/
def widen (x : It) : It := if 0 ≤ x.to then ⟨x.size, x.long, x.to, -16777216, 16777216, -16777216, 16777216⟩ else x
def wideP (p : Pr) : Pr := ⟨p.items.map widen, p.labels⟩
theorem widen_to (x : It) : (widen x).to = x.to := by unfold widen; split <;> rfl
theorem wide_len (p : Pr) : (wideP p).items.length = p.items.length := by simp [wideP]
theorem wide_right {p : Pr} (hr : right p = true) : right (wideP p) = true := by
  simp only [right, Bool.and_eq_true, decide_eq_true_eq, List.all_eq_true] at hr ⊢
  obtain ⟨⟨h1, h2⟩, h3, h4⟩ := hr
  refine ⟨⟨by rw [wide_len]; exact h1, h2⟩, fun x hx => ?_, fun x hx => ?_⟩
  · have := h3 x hx
    simpa only [okLb, wide_len] using this
  · simp only [wideP, List.mem_map] at hx
    obtain ⟨y, hy, rfl⟩ := hx
    have := h4 y hy
    unfold widen
    by_cases ht : 0 ≤ y.to
    · have hn : y.to ≠ -1 := by omega
      simp only [okIt, okJ, hn, if_false, andB, Bool.and_eq_true, inB_iff] at this
      simp only [ht, if_true, okIt, okJ, hn, if_false, andB, Bool.and_eq_true, inB_iff, wideP]
      refine ⟨this.1, ?_⟩
      have h := this.2
      refine ⟨⟨⟨⟨⟨⟨trivial, h.1.1.1.1.1.2⟩, h.1.1.1.1.2⟩, ?_⟩, ?_⟩, ?_⟩, ?_⟩ <;> omega
    · have hn : y.to = -1 := by
        apply Decidable.byContradiction
        intro hn
        simp only [okIt, okJ, hn, if_false, andB, Bool.and_eq_true, inB_iff] at this
        have := this.2.1.1.1.1.1
        omega
      simp only [ht, if_false]
      simp only [okIt, hn, if_true] at this ⊢
      exact this
theorem wide_dist {p : Pr} (hr : right p = true) {k : Nat} (hk : k < p.items.length) (L : List Bool) : -16777216 ≤ dist p L k ∧ dist p L k ≤ 16777216 ∨ (p.items[k]).to = -1 := by
  have hp := ok_of hr
  by_cases hj : p.items[k].to = -1
  · exact .inr hj
  refine .inl ?_
  have hj := hp.to k hk hj
  have hlt : p.items[k].to.toNat < p.labels.length := by omega
  have hlab := hp.lab _ hlt
  have eL : dist p L k = pos p L (p.labels[p.items[k].to.toNat]).toNat - pos p L (k + 1) := by
    simp [dist, List.getElem?_eq_getElem hk, List.getElem?_eq_getElem hlt]
  have a := pos_bound hp L (p.labels[p.items[k].to.toNat]).toNat (by omega)
  have b := pos_bound hp L (k + 1) (by omega)
  have hn := hp.n
  rw [eL]
  omega
theorem wide_least {p : Pr} (hr : right p = true) : Least (wideP p) (noneL p) := by
  have e : noneL p = noneL (wideP p) := by simp [noneL, wide_len]
  rw [e]
  refine least_of (below_none _) fun k hk => ?_
  have hk' : k < p.items.length := by rw [wide_len] at hk; exact hk
  cases hf : failB (wideP p) (noneL (wideP p)) k with
  | false => rfl
  | true =>
    obtain ⟨hj, hj0, hlk⟩ := fail_jump hk hf
    have hd := (wide_dist (wide_right hr) hk (noneL (wideP p))).resolve_right hj
    have ht : 0 ≤ p.items[k].to := by simpa [wideP, widen_to] using hj0
    have e1 : ((wideP p).items[k]?.getD default : It).low = -16777216 ∧ ((wideP p).items[k]?.getD default : It).high = 16777216 := by
      simp [wideP, hk', widen, ht]
    simp only [failB, andB, Bool.and_eq_true, e1.1, e1.2, Bool.not_eq_true'] at hf
    have h3 := hf.2
    rw [← Bool.not_eq_true, inB_iff] at h3
    exact absurd hd h3
theorem none_bad (p q : Pr) : firstI (badL p (noneL q)) 0 p.items.length = -1 := by
  rw [firstI_none]
  intro k _ _
  have : lg (noneL q) k = false := by
    simp only [lg, noneL, List.getElem?_replicate]
    split <;> rfl
  simp [badL, this, andB]
theorem none_stable {p : Pr} {L : List Bool} (hL : Least p L) (h : stableB p (noneL p) = true) : L = noneL p := by
  have hs : Sta p (noneL p) := by
    unfold stableB at h
    rw [decide_eq_true_eq] at h
    rw [← fails_none]
    exact (firstI_lt _ _).1 h
  exact least_unique hL (least_of (below_none p) hs)
theorem none_is {p : Pr} {L : List Bool} (hL : Least p L) : stableB p (noneL p) = decide (L = noneL p) := by
  cases h : stableB p (noneL p) with
  | true => simp [none_stable hL h]
  | false =>
    rw [eq_comm, decide_eq_false_iff_not]
    rintro rfl
    unfold stableB at h
    rw [decide_eq_false_iff_not] at h
    have := fails_none.2 hL.sta
    omega
end Go.En.R40
