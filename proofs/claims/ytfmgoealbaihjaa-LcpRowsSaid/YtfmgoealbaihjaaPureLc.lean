/- lcp: what ends share; the row of neighbours; the least of it. -/
import Derived.Test.YtfmgoealbaihjaaCom
set_option linter.unusedVariables false
set_option linter.unusedSimpArgs false
set_option linter.unusedSectionVars false
namespace Go.Proofs.Ytfmgoealbaihjaa.Lc
/-- How much two rows share. -/
def cp : List Nat → List Nat → Nat
  | a :: s, b :: t => if a = b then cp s t + 1 else 0
  | _, _ => 0
theorem cp_nil (v : List Nat) : cp [] v = 0 := by unfold cp; rfl
theorem cp_nil2 (v : List Nat) : cp v [] = 0 := by cases v <;> simp [cp]
theorem cp_comm : ∀ u v : List Nat, cp u v = cp v u
  | [], v => by rw [cp_nil, cp_nil2]
  | _ :: _, [] => by rw [cp_nil, cp_nil2]
  | a :: s, b :: t => by
    simp only [cp]
    rw [cp_comm s t]
    by_cases h : a = b
    · rw [if_pos h, if_pos h.symm]
    · rw [if_neg h, if_neg (fun e => h e.symm)]
theorem cp_self : ∀ u : List Nat, cp u u = u.length
  | [] => rfl
  | a :: s => by simp [cp, cp_self s]
theorem cp_le : ∀ u v : List Nat, cp u v ≤ u.length
  | [], v => by rw [cp_nil]; exact Nat.zero_le _
  | _ :: _, [] => by rw [cp_nil2]; exact Nat.zero_le _
  | a :: s, b :: t => by
    simp only [cp]
    have := cp_le s t
    split <;> simp <;> omega
theorem cp_min : ∀ u v w : List Nat, u < v → v < w → cp u w = min (cp u v) (cp v w)
  | [], v, w, _, _ => by rw [cp_nil, cp_nil, Nat.zero_min]
  | a :: u, [], w, h, _ => absurd h (by simp)
  | a :: u, b :: v, [], _, h => absurd h (by simp)
  | a :: u, b :: v, c :: w, h1, h2 => by
    rw [List.cons_lt_cons_iff] at h1 h2
    simp only [cp]
    rcases h1 with h1 | ⟨rfl, h1⟩
    · rw [if_neg (by omega : ¬ a = b), Nat.zero_min, if_neg]
      rcases h2 with h2 | ⟨rfl, h2⟩ <;> omega
    · rw [if_pos rfl]
      rcases h2 with h2 | ⟨rfl, h2⟩
      · rw [if_neg (by omega : ¬ a = c), if_neg (by omega : ¬ a = c), Nat.min_zero]
      · rw [if_pos rfl, if_pos rfl, cp_min u v w h1 h2]; omega
theorem cp_step : ∀ (n : Nat) (u v : List Nat), n ≤ cp u v → (n < cp u v ↔ n < u.length ∧ n < v.length ∧ u.getD n 0 = v.getD n 0)
  | n, [], v, h => by simp [cp_nil]
  | n, _ :: _, [], h => by simp [cp_nil2]
  | n, a :: s, b :: t, h => by
    simp only [cp] at h ⊢
    by_cases e : a = b
    · rw [if_pos e] at h ⊢
      cases n with
      | zero => simp [e]
      | succ n =>
        have := cp_step n s t (by omega)
        simp only [List.length_cons, Nat.add_lt_add_iff_right, List.getD_cons_succ]
        exact this
    · rw [if_neg e] at h ⊢
      obtain rfl : n = 0 := by omega
      simp [e]
theorem gD {l : List Nat} {i : Nat} (h : i < l.length) : l.getD i 0 = l[i] := by rw [List.getD_eq_getElem?_getD, List.getElem?_eq_getElem h]; rfl
theorem drop_cc {x : List Nat} {p : Nat} (hp : p < x.length) : x.drop p = x.getD p 0 :: x.drop (p + 1) := by
  rw [List.drop_eq_getElem_cons hp, gD hp]
section
variable {x a : List Nat} (hp : a.Pairwise (fun p q => x.drop p < x.drop q))
include hp
theorem pw {j k : Nat} (h : j < k) (hk : k < a.length) : x.drop (a.getD j 0) < x.drop (a.getD k 0) := by
  rw [gD (by omega), gD hk]
  exact List.pairwise_iff_getElem.1 hp j k (by omega) hk h
theorem pw_iff {j k : Nat} (hj : j < a.length) (hk : k < a.length) : x.drop (a.getD j 0) < x.drop (a.getD k 0) ↔ j < k := by
  constructor
  · intro hr
    rcases Nat.lt_trichotomy j k with h | h | h
    · exact h
    · subst h; exact absurd hr (List.lt_irrefl _)
    · exact absurd (List.lt_trans hr (pw hp h hj)) (List.lt_irrefl _)
  · exact fun h => pw hp h hk
/-- What a place's end shares with the one ahead. -/
def nb1 (x a : List Nat) (k : Nat) : Nat := if k = 0 then 0 else cp (x.drop (a.getD (k - 1) 0)) (x.drop (a.getD k 0))
theorem kasai (hlt : ∀ y ∈ a, y < x.length) (hall : ∀ y, y < x.length → y ∈ a) {i k k' : Nat} (hk : k < a.length) (e : a.getD k 0 = i) (hk' : k' < a.length) (e' : a.getD k' 0 = i + 1) : nb1 x a k - 1 ≤ nb1 x a k' := by
  by_cases hk0 : k = 0
  · unfold nb1; rw [if_pos hk0]; omega
  obtain ⟨n, hn⟩ : ∃ n, nb1 x a k = n := ⟨_, rfl⟩
  rcases Nat.lt_or_ge n 2 with h2 | h2
  · omega
  rw [hn]
  unfold nb1 at hn
  rw [if_neg hk0, e] at hn
  obtain ⟨j, hj⟩ : ∃ j, a.getD (k - 1) 0 = j := ⟨_, rfl⟩
  rw [hj] at hn
  have hjl : j < x.length := hlt _ (by rw [← hj, gD (by omega)]; exact List.getElem_mem _)
  have hil : i < x.length := hlt _ (by rw [← e, gD (by omega)]; exact List.getElem_mem _)
  have hji := pw hp (j := k - 1) (k := k) (by omega) hk
  rw [hj, e, drop_cc hjl, drop_cc hil, List.cons_lt_cons_iff] at hji
  rw [drop_cc hjl, drop_cc hil] at hn
  simp only [cp] at hn
  by_cases hh : x.getD j 0 = x.getD i 0
  · rw [if_pos hh] at hn
    have hlt2 : x.drop (j + 1) < x.drop (i + 1) := by
      rcases hji with h | h
      · omega
      · exact h.2
    have hj1 : j + 1 < x.length := by
      rcases Nat.lt_or_ge (j + 1) x.length with h | h
      · exact h
      · rw [List.drop_eq_nil_of_le h, cp_nil] at hn; omega
    obtain ⟨m, hm, em⟩ := List.mem_iff_getElem.1 (hall (j + 1) hj1)
    have em : a.getD m 0 = j + 1 := by rw [gD hm, em]
    have hmk : m < k' := (pw_iff hp hm hk').1 (by rw [em, e']; exact hlt2)
    unfold nb1
    rw [if_neg (by omega), e']
    by_cases hq : m = k' - 1
    · rw [← hq, em]; omega
    · have := cp_min (x.drop (a.getD m 0)) (x.drop (a.getD (k' - 1) 0)) (x.drop (a.getD k' 0)) (pw hp (by omega) (by omega)) (pw hp (by omega) hk')
      rw [em, e'] at this
      omega
  · rw [if_neg hh] at hn; omega
/-- What two ends share is the least of what is between. -/
def least (x a : List Nat) (i : Nat) : Nat → Nat → Nat
  | 0, n => n
  | d + 1, n => least x a (i + 1) d (min n (nb1 x a i))
theorem least_eq (d : Nat) : ∀ (i j : Nat), j < i → i + d < a.length + 1 → 0 < i → least x a i d (cp (x.drop (a.getD j 0)) (x.drop (a.getD (i - 1) 0))) = cp (x.drop (a.getD j 0)) (x.drop (a.getD (i + d - 1) 0)) := by
  induction d with
  | zero => intro i j _ _ _; rfl
  | succ d ih =>
    intro i j hj hi h0
    unfold least
    have hmin : min (cp (x.drop (a.getD j 0)) (x.drop (a.getD (i - 1) 0))) (nb1 x a i) = cp (x.drop (a.getD j 0)) (x.drop (a.getD (i + 1 - 1) 0)) := by
      rw [Nat.add_sub_cancel]
      unfold nb1
      rw [if_neg (by omega)]
      by_cases e : j = i - 1
      · subst e
        rw [cp_self]
        have := cp_le (x.drop (a.getD (i - 1) 0)) (x.drop (a.getD i 0))
        omega
      · exact (cp_min _ _ _ (pw hp (by omega) (by omega)) (pw hp (by omega) (by omega))).symm
    rw [hmin, ih (i + 1) j (by omega) (by omega) (by omega), show i + 1 + d - 1 = i + (d + 1) - 1 from by omega]
end
end Go.Proofs.Ytfmgoealbaihjaa.Lc
