/- lzw's rows, plainly: what the steps say. -/
import Derived.Test.YtnmggblhbodfgaaHLz
set_option linter.unusedVariables false
set_option linter.unusedSimpArgs false
set_option linter.unusedSectionVars false
namespace Go.Proofs.Ytnmggblhbodfgaa.Pure
open Go.RowKit Go.Proofs.YtnmggblhbodfgaaW.PrintWords Go.Proofs.YtnmggblhbodfgaaW.PrintMore Go.Proofs.Ytnmggblhbodfgaa.P Go.Proofs.Ytnmggblhbodfgaa.Com Go.Proofs.Ytnmggblhbodfgaa.Hd
theorem snocI {α : Type} {P : List α → Prop} (h0 : P []) (h1 : ∀ l x, P l → P (l ++ [x])) (l : List α) : P l := by
  have : ∀ n (l : List α), l.length = n → P l := by
    intro n
    induction n with
    | zero => intro l hl; rw [List.eq_nil_of_length_eq_zero hl]; exact h0
    | succ n ih =>
      intro l hl
      have hne : l ≠ [] := by intro e; rw [e] at hl; simp at hl
      rw [← List.dropLast_concat_getLast hne]
      exact h1 _ _ (ih _ (by rw [List.length_dropLast]; omega))
  exact this _ l rfl
def rw0 : List (List Nat) := (List.range 256).map (fun c => [c])
/-- The rows that the steps make. -/
def R (D : List (Nat × Nat)) : List (List Nat) := D.foldl (fun l x => l ++ [l.getD x.1 [] ++ [x.2]]) rw0
def row (D : List (Nat × Nat)) (i : Nat) : List Nat := (R D).getD i []
theorem R_nil : R [] = rw0 := rfl
theorem R_snoc (D : List (Nat × Nat)) (x : Nat × Nat) : R (D ++ [x]) = R D ++ [row D x.1 ++ [x.2]] := by simp [R, row]
theorem R_len (D : List (Nat × Nat)) : (R D).length = 256 + D.length := by
  refine snocI (P := fun D => (R D).length = 256 + D.length) ?_ (fun D x ih => ?_) D
  · simp [R_nil, rw0]
  · rw [R_snoc, List.length_append, ih, List.length_singleton, List.length_append, List.length_singleton]; omega
theorem row_snoc_lt {D : List (Nat × Nat)} {x : Nat × Nat} {i : Nat} (h : i < 256 + D.length) : row (D ++ [x]) i = row D i := by
  unfold row
  rw [R_snoc, List.getD_eq_getElem?_getD, List.getElem?_append_left (by rw [R_len]; exact h), ← List.getD_eq_getElem?_getD]
theorem row_snoc_eq {D : List (Nat × Nat)} {x : Nat × Nat} : row (D ++ [x]) (256 + D.length) = row D x.1 ++ [x.2] := by
  unfold row
  rw [R_snoc, List.getD_eq_getElem?_getD, List.getElem?_append_right (by rw [R_len]; exact Nat.le_refl _), R_len]
  simp [row]
theorem row_one {D : List (Nat × Nat)} {i : Nat} (h : i < 256) : row D i = [i] := by
  refine snocI (P := fun D => row D i = [i]) ?_ (fun D x ih => ?_) D
  · unfold row
    rw [R_nil]
    unfold rw0
    rw [List.getD_eq_getElem?_getD, List.getElem?_map, List.getElem?_range h]; rfl
  · rw [row_snoc_lt (by omega)]; exact ih
/-- Steps begin at rows that are there, and none comes twice. -/
structure DOk (D : List (Nat × Nat)) : Prop where
  nd : D.Nodup
  lt : ∀ (j : Nat) (x : Nat × Nat), D[j]? = some x → x.1 < 256 + j ∧ x.2 < 256
theorem DOk.init {D : List (Nat × Nat)} {x : Nat × Nat} (h : DOk (D ++ [x])) : DOk D := by
  refine ⟨(List.nodup_append.1 h.nd).1, fun j y hy => h.lt j y ?_⟩
  rw [List.getElem?_append_left (List.getElem?_eq_some_iff.1 hy).1]; exact hy
theorem DOk.last {D : List (Nat × Nat)} {x : Nat × Nat} (h : DOk (D ++ [x])) : x.1 < 256 + D.length ∧ x.2 < 256 := h.lt D.length x (by simp)
theorem DOk.snoc {D : List (Nat × Nat)} {x : Nat × Nat} (h : DOk D) (hx : x ∉ D) (h1 : x.1 < 256 + D.length) (h2 : x.2 < 256) : DOk (D ++ [x]) := by
  refine ⟨?_, fun j y hy => ?_⟩
  · rw [List.nodup_append]
    exact ⟨h.nd, by simp, by intro a ha b hb; rw [List.mem_singleton.1 hb]; rintro rfl; exact hx ha⟩
  · rcases Nat.lt_or_ge j D.length with hj | hj
    · rw [List.getElem?_append_left hj] at hy; exact h.lt j y hy
    · rw [List.getElem?_append_right hj] at hy
      have : j - D.length < 1 := (List.getElem?_eq_some_iff.1 hy).1
      have e : j = D.length := by omega
      subst e
      rw [Nat.sub_self] at hy
      have : x = y := by simpa using hy
      subst this
      exact ⟨h1, h2⟩
theorem DOk.nil : DOk [] := ⟨List.nodup_nil, by simp⟩
theorem row_step {D : List (Nat × Nat)} : ∀ (_ : DOk D) (j : Nat) (x : Nat × Nat), D[j]? = some x → row D (256 + j) = row D x.1 ++ [x.2] := by
  refine snocI (P := fun D => DOk D → ∀ (j : Nat) (x : Nat × Nat), D[j]? = some x → row D (256 + j) = row D x.1 ++ [x.2]) ?_ (fun D y ih => ?_) D
  · intro _ j x h; simp at h
  · intro h j x hx
    rcases Nat.lt_or_ge j D.length with hj | hj
    · rw [List.getElem?_append_left hj] at hx
      have hl := h.init.lt j x hx
      rw [row_snoc_lt (by omega), row_snoc_lt (by omega)]
      exact ih h.init j x hx
    · rw [List.getElem?_append_right hj] at hx
      have : j - D.length < 1 := (List.getElem?_eq_some_iff.1 hx).1
      have e : j = D.length := by omega
      subst e
      rw [Nat.sub_self] at hx
      have : y = x := by simpa using hx
      subst this
      rw [row_snoc_eq, row_snoc_lt h.last.1]
theorem row_pos {D : List (Nat × Nat)} (h : DOk D) {i : Nat} (hi : i < 256 + D.length) : 1 ≤ (row D i).length ∧ (256 ≤ i → 2 ≤ (row D i).length) := by
  have : ∀ n i, i < n → i < 256 + D.length → 1 ≤ (row D i).length ∧ (256 ≤ i → 2 ≤ (row D i).length) := by
    intro n
    induction n with
    | zero => intro i hi; omega
    | succ n ih =>
      intro i hin hi
      by_cases h2 : i < 256
      · rw [row_one h2]; exact ⟨by simp, by omega⟩
      · have hj : i - 256 < D.length := by omega
        have hx := List.getElem?_eq_getElem hj
        have hl := h.lt _ _ hx
        have hr := row_step h _ _ hx
        rw [show 256 + (i - 256) = i from by omega] at hr
        have := ih (D[i - 256]).1 (by omega) (by omega)
        rw [hr, List.length_append, List.length_singleton]
        omega
  exact this (i + 1) i (by omega) hi
theorem row_inj {D : List (Nat × Nat)} (h : DOk D) : ∀ n i k, i < n → i < 256 + D.length → k < 256 + D.length → row D i = row D k → i = k := by
  intro n
  induction n with
  | zero => intro i k hi; omega
  | succ n ih =>
    intro i k hin hi hk e
    by_cases h1 : i < 256
    · by_cases h2 : k < 256
      · rw [row_one h1, row_one h2] at e; simpa using e
      · have := (row_pos h hk).2 (by omega)
        rw [← e, row_one h1] at this
        simp at this
    · by_cases h2 : k < 256
      · have := (row_pos h hi).2 (by omega)
        rw [e, row_one h2] at this
        simp at this
      · obtain ⟨x, hx⟩ : ∃ x, D[i - 256]? = some x := ⟨_, List.getElem?_eq_getElem (show i - 256 < D.length by omega)⟩
        obtain ⟨y, hy⟩ : ∃ y, D[k - 256]? = some y := ⟨_, List.getElem?_eq_getElem (show k - 256 < D.length by omega)⟩
        have hr := row_step h _ _ hx
        have hs := row_step h _ _ hy
        rw [show 256 + (i - 256) = i from by omega] at hr
        rw [show 256 + (k - 256) = k from by omega] at hs
        rw [hr, hs] at e
        obtain ⟨e1, e2⟩ := List.append_inj' e (by simp)
        have l1 := h.lt _ _ hx
        have l2 := h.lt _ _ hy
        have e3 := ih _ _ (by omega) (by omega) (by omega) e1
        have e5 : x.2 = y.2 := by injection e2
        have e4 : x = y := Prod.ext e3 e5
        have := (List.getElem?_inj (i := i - 256) (j := k - 256) (show i - 256 < D.length by omega) h.nd).1 (hx.trans (by rw [hy, e4]))
        omega
/-- A row of one byte more that is there comes of a step. -/
theorem row_of_step {D : List (Nat × Nat)} (h : DOk D) {a c k : Nat} (ha : a < 256 + D.length) (hk : k < 256 + D.length) (e : row D k = row D a ++ [c]) : (a, c) ∈ D := by
  have hp := (row_pos h ha).1
  by_cases h1 : k < 256
  · rw [row_one h1] at e
    have := congrArg List.length e
    simp only [List.length_append, List.length_singleton] at this
    omega
  · obtain ⟨x, hx⟩ : ∃ x, D[k - 256]? = some x := ⟨_, List.getElem?_eq_getElem (show k - 256 < D.length by omega)⟩
    have hr := row_step h _ _ hx
    rw [show 256 + (k - 256) = k from by omega, e] at hr
    obtain ⟨e1, e2⟩ := List.append_inj' hr (by simp)
    have l1 := h.lt _ _ hx
    have e3 := row_inj h (a + 1) a _ (by omega) ha (by omega) e1
    have e5 : c = x.2 := by injection e2
    have e4 : (a, c) = x := Prod.ext e3 e5
    rw [e4]
    exact List.mem_of_getElem? hx
/-- Beginnings of rows are rows. -/
theorem row_pre {D : List (Nat × Nat)} (h : DOk D) : ∀ n k, k < n → k < 256 + D.length → ∀ p, p <+: row D k → p ≠ [] → ∃ i, i < 256 + D.length ∧ row D i = p := by
  intro n
  induction n with
  | zero => intro k hk; omega
  | succ n ih =>
    intro k hkn hk p hp h0
    by_cases h1 : k < 256
    · rw [row_one h1] at hp
      refine ⟨k, hk, ?_⟩
      rw [row_one h1]
      have : p = [k] := by
        rw [← List.nil_append [k], List.prefix_concat_iff] at hp
        rcases hp with hp | hp
        · simpa using hp
        · exact absurd (List.prefix_nil.1 hp) h0
      exact this.symm
    · obtain ⟨x, hx⟩ : ∃ x, D[k - 256]? = some x := ⟨_, List.getElem?_eq_getElem (show k - 256 < D.length by omega)⟩
      have hr := row_step h _ _ hx
      rw [show 256 + (k - 256) = k from by omega] at hr
      rw [hr, List.prefix_concat_iff] at hp
      rcases hp with hp | hp
      · exact ⟨k, hk, by rw [hr, hp]⟩
      · have l1 := h.lt _ _ hx
        exact ih _ (by omega) (by omega) p hp h0
/-- No other row that a text begins with is as long, where no step leads on. -/
theorem row_longest {D : List (Nat × Nat)} (h : DOk D) {a : Nat} (ha : a < 256 + D.length) {t : List Nat} (ht : ∀ c u, t = c :: u → (a, c) ∉ D) {k : Nat} (hk : k < 256 + D.length) (hne : k ≠ a) (hp : row D k <+: row D a ++ t) : (row D k).length < (row D a).length := by
  apply Classical.byContradiction
  intro hc
  have hpa : row D a <+: row D k := List.prefix_of_prefix_length_le (List.prefix_append _ _) hp (by omega)
  obtain ⟨u, hu⟩ := hpa
  cases u with
  | nil =>
    rw [List.append_nil] at hu
    exact hne (row_inj h (k + 1) k a (by omega) hk ha hu.symm)
  | cons c u =>
    rw [← hu, List.prefix_append_right_inj] at hp
    cases t with
    | nil => exact absurd (List.prefix_nil.1 hp) (by simp)
    | cons c' t' =>
      rw [List.cons_prefix_cons] at hp
      obtain ⟨rfl, _⟩ := hp
      obtain ⟨i, hi, e⟩ := row_pre h (k + 1) k (by omega) hk (row D a ++ [c]) (by rw [← hu]; exact ⟨u, by simp⟩) (by simp)
      exact ht c t' rfl (row_of_step h ha hi e)
end Go.Proofs.Ytnmggblhbodfgaa.Pure
