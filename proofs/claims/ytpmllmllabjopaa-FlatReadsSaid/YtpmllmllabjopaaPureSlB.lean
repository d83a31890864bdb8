/- Codes bit by bit, plainly (no slow in sight). -/
import Derived.Test.YtpmllmllabjopaaPureCgo
import Derived.Test.YtpmllmllabjopaaHCn
set_option linter.unusedVariables false
set_option linter.unusedSimpArgs false
set_option linter.unusedSectionVars false
namespace Go.Proofs.Ytpmllmllabjopaa.Pure
open Go.RowKit Go.Proofs.YtpmllmllabjopaaW.PrintWords Go.Proofs.YtpmllmllabjopaaW.PrintMore Go.Proofs.Ytpmllmllabjopaa.P Go.Proofs.Ytpmllmllabjopaa.Com Go.Proofs.Ytpmllmllabjopaa.Cn Go.Proofs.Ytpmllmllabjopaa.Hd
attribute [local irreducible] ord pos code
/-- So many bits of a number, the highest first. -/
def mb (c : Nat) : Nat → List Bool
  | 0 => []
  | n + 1 => (c / 2 ^ n % 2 == 1) :: mb c n
theorem mb_length (c n : Nat) : (mb c n).length = n := by
  induction n with
  | zero => rfl
  | succ n ih => simp [mb, ih]
theorem mb_add (c a b : Nat) : mb c (a + b) = mb (c / 2 ^ b) a ++ mb c b := by
  induction a with
  | zero => rw [Nat.zero_add]; rfl
  | succ a ih =>
    rw [show a + 1 + b = (a + b) + 1 by omega]
    simp only [mb, List.cons_append]
    rw [ih, Nat.div_div_eq_div_mul, ← Nat.pow_add, Nat.add_comm b a]
theorem mb_snoc (c n : Nat) (b : Bool) : mb (2 * c + (if b = true then 1 else 0)) (n + 1) = mb c n ++ [b] := by
  rw [mb_add]
  have e1 : (2 * c + (if b = true then 1 else 0)) / 2 ^ 1 = c := by split <;> omega
  rw [e1]
  congr 1
  simp only [mb]
  cases b <;> simp <;> omega
theorem S_step {c : Nat → Nat} {a b : Nat} (h : a < b) : S c a + c a ≤ S c b := S_mono c (show a + 1 ≤ b by omega)
theorem sym_of {l : List Int} (hl : ∀ x ∈ l, 0 ≤ x ∧ x ≤ 16) {j v : Nat} (hj : j ≤ 16) (h1 : F (cn l) j ≤ v) (h2 : v < F (cn l) j + cn l j) : ∃ i, i < l.length ∧ 0 < l.getD i 0 ∧ ln l i = j ∧ code l i = v ∧ od l (S (cn l) j + (v - F (cn l) j)) = i := by
  have hs := S_mono (cn l) (show j + 1 ≤ 17 by omega)
  have hs' : S (cn l) (j + 1) = S (cn l) j + cn l j := rfl
  have hp : S (cn l) j + (v - F (cn l) j) < (ord l).length := by rw [ord_length]; omega
  obtain ⟨m1, m2, m3⟩ := od_mem hp
  have hpo := pos_od hl hp
  obtain ⟨i, hi⟩ : ∃ i, od l (S (cn l) j + (v - F (cn l) j)) = i := ⟨_, rfl⟩
  rw [hi] at m1 m2 m3 hpo
  have hr := rank_lt m1 m2
  have e : pos l i = S (cn l) (ln l i) + rank l i := by unfold pos; rfl
  rw [e] at hpo
  have ej : ln l i = j := by
    rcases Nat.lt_trichotomy (ln l i) j with h | h | h
    · have := S_step (c := cn l) h; omega
    · exact h
    · have := S_step (c := cn l) h; omega
  refine ⟨i, m1, m2, ej, ?_, hi⟩
  rw [code_pos m2, ej]
  rw [ej] at hpo
  omega
theorem code_in {l : List Int} {i : Nat} (hi : i < l.length) (h0 : 0 < l.getD i 0) : F (cn l) (ln l i) ≤ code l i ∧ code l i < F (cn l) (ln l i) + cn l (ln l i) := by
  have := rank_lt hi h0
  rw [code_pos h0]
  omega
theorem ln_pos {l : List Int} {i : Nat} (h0 : 0 < l.getD i 0) : 1 ≤ ln l i := by unfold ln; omega
/-- A code's bits are found. -/
theorem sdm_hit {l : List Int} (h : chk l 16 = 0) {L v : Nat} (hL : L ≤ 16) (h1 : F (cn l) L ≤ v) (h2 : v < F (cn l) L + cn l L) (rest : List Bool) (j : Nat) : ∀ m kk, kk + j = L → m + kk = 16 →
    sdm l (m + 1) kk (v / 2 ^ (j + 1)) (mb v (j + 1) ++ rest) = ((od l (S (cn l) L + (v - F (cn l) L)) : Int), (L : Int), 0) := by
  induction j with
  | zero =>
    intro m kk hk hm
    have ek : kk = L := by omega
    subst ek
    simp only [mb, List.cons_append, sdm, List.nil_append]
    have ed : 2 * (v / 2 ^ (0 + 1)) + (if (v / 2 ^ 0 % 2 == 1) = true then 1 else 0) = v := by
      rw [Nat.pow_zero, Nat.div_one]
      by_cases hb : v % 2 = 1
      · rw [hb]; simp; omega
      · have : v % 2 = 0 := by omega
        rw [this]; simp; omega
    rw [ed, if_pos (by omega)]
  | succ j ih =>
    intro m kk hk hm
    obtain ⟨m, rfl⟩ : ∃ p, m = p + 1 := ⟨m - 1, by omega⟩
    rw [show mb v (j + 1 + 1) = (v / 2 ^ (j + 1) % 2 == 1) :: mb v (j + 1) from rfl, List.cons_append, sdm]
    have ed : 2 * (v / 2 ^ (j + 1 + 1)) + (if (v / 2 ^ (j + 1) % 2 == 1) = true then 1 else 0) = v / 2 ^ (j + 1) := by
      have e : v / 2 ^ (j + 1 + 1) = v / 2 ^ (j + 1) / 2 := by rw [Nat.div_div_eq_div_mul, ← Nat.pow_succ]
      rw [e]
      generalize v / 2 ^ (j + 1) = y
      by_cases hb : y % 2 = 1
      · rw [hb]; simp; omega
      · have : y % 2 = 0 := by omega
        rw [this]; simp; omega
    have hF := F_ge (cn l) (show kk < L by omega)
    rw [show L - kk = j + 1 by omega] at hF
    have hd : F (cn l) kk + cn l kk ≤ v / 2 ^ (j + 1) := by rw [Nat.le_div_iff_mul_le (Nat.two_pow_pos _)]; omega
    have hS1 := S_mono (cn l) (show kk + 1 ≤ L by omega)
    have hS2 := S_step (c := cn l) (show L < 17 by omega)
    rw [ed, if_neg (by omega), if_neg (by rw [ord_length]; omega)]
    exact ih m (kk + 1) (by omega) (by omega)
theorem K_S {c : Nat → Nat} {a : Nat} (b : Nat) (hab : a ≤ b) (h : K c a = K c b) : S c a = S c b := by
  induction b with
  | zero => rw [show a = 0 by omega]
  | succ b ih =>
    by_cases e : a = b + 1
    · rw [e]
    · have h1 := K_mono c (show a ≤ b by omega)
      have h2 : K c (b + 1) = K c b + c b * 2 ^ (16 - b) := rfl
      have h3 : c b * 2 ^ (16 - b) = 0 := by omega
      have h4 : c b = 0 := by
        rcases Nat.mul_eq_zero.1 h3 with h | h
        · exact h
        · have := Nat.two_pow_pos (16 - b); omega
      have h5 : S c (b + 1) = S c b + c b := rfl
      rw [h5, h4, ih (by omega) (by omega)]
      omega
/-- A code, or all of them together: no room is left. -/
theorem full {l : List Int} (h : chk l 16 = 0) : (∃ i, i < l.length ∧ l.getD i 0 = 1 ∧ K (cn l) 2 = K (cn l) 17) ∨ K (cn l) 17 = 65536 := by
  have hb := (chk_len h).2
  have hK := Su_K l hb
  unfold chk at h
  rw [if_neg (by decide)] at h
  split at h
  · exact absurd h (by decide)
  · split at h
    · exact absurd h (by decide)
    · split at h
      · exact absurd h (by decide)
      · split at h
        · rename_i h1
          obtain ⟨x, hx0, hxm, hx⟩ := one_used l h1
          split at h
          · rename_i h2
            rw [hx 1] at h2
            have e1 : x = 1 := by
              unfold wt at h2
              split at h2
              · omega
              · exact absurd h2 (by decide)
            subst e1
            left
            obtain ⟨i, hi, he⟩ := List.getElem_of_mem hxm
            have hg : l.getD i 0 = 1 := by rw [List.getD_eq_getElem?_getD, List.getElem?_eq_getElem hi]; exact he
            refine ⟨i, hi, hg, ?_⟩
            rw [hx 16] at hK
            have hK2 : K (cn l) 17 = 32768 := by have : wt 16 1 = 32768 := by decide
                                                 omega
            have h3 := K_mono (cn l) (show 2 ≤ 17 by omega)
            have h4 : K (cn l) 2 = 0 + cn l 0 * 2 ^ 16 + cn l 1 * 2 ^ 15 := rfl
            have h5 : 1 ≤ cn l 1 := by
              have hl1 : ln l i = 1 := by unfold ln; rw [hg]; rfl
              have := rank_lt hi (by rw [hg]; decide)
              rw [hl1] at this
              omega
            rw [cn_zero] at h4
            have h6 : (2 : Nat) ^ 15 = 32768 := by decide
            rw [h6] at h4
            omega
          · exact absurd h (by decide)
        · split at h
          · rename_i h2
            right
            rw [h2] at hK
            have : ((2 : Int) ^ (16 : Int).toNat) = 65536 := by decide
            omega
          · exact absurd h (by decide)
theorem grow {l : List Int} (hl : ∀ x ∈ l, 0 ≤ x ∧ x ≤ 16) (hK : K (cn l) 17 = 65536) {kn c : Nat} (d : Nat) : ∀ j v, j + d = 16 → kn ≤ j → F (cn l) j + cn l j ≤ v → v < 2 ^ j → v / 2 ^ (j - kn) = c →
    ∃ i, i < l.length ∧ 0 < l.getD i 0 ∧ kn ≤ ln l i ∧ code l i / 2 ^ (ln l i - kn) = c := by
  induction d with
  | zero =>
    intro j v hj hk h1 h2 h3
    have ej : j = 16 := by omega
    subst ej
    have e1 := F_K (cn l) 16 (by omega)
    have e2 : K (cn l) 17 = K (cn l) 16 + cn l 16 * 2 ^ 0 := rfl
    have e3 : (2 : Nat) ^ 16 = 65536 := by decide
    rw [Nat.sub_self, Nat.pow_zero, Nat.mul_one] at e1
    rw [Nat.pow_zero, Nat.mul_one] at e2
    omega
  | succ d ih =>
    intro j v hj hk h1 h2 h3
    have eF : F (cn l) (j + 1) = 2 * (F (cn l) j + cn l j) := by rw [F]; omega
    have ev : 2 * v / 2 ^ (j + 1 - kn) = c := by
      rw [show j + 1 - kn = (j - kn) + 1 by omega, Nat.pow_succ, Nat.mul_comm (2 ^ (j - kn)) 2, Nat.mul_div_mul_left _ _ (by decide)]
      exact h3
    by_cases hb : 2 * v < F (cn l) (j + 1) + cn l (j + 1)
    · obtain ⟨i, i1, i2, i3, i4, _⟩ := sym_of hl (show j + 1 ≤ 16 by omega) (v := 2 * v) (by omega) hb
      exact ⟨i, i1, i2, by omega, by rw [i3, i4]; exact ev⟩
    · exact ih (j + 1) (2 * v) (by omega) (by omega) (by omega) (by rw [Nat.pow_succ]; omega) ev
theorem more {l : List Int} (h : chk l 16 = 0) {kn c : Nat} (hk : kn ≤ 16) (h1 : F (cn l) kn + cn l kn ≤ c) (h2 : c < 2 ^ kn) (h3 : 1 ≤ kn → S (cn l) (kn + 1) ≠ (ord l).length) :
    ∃ i, i < l.length ∧ 0 < l.getD i 0 ∧ kn ≤ ln l i ∧ code l i / 2 ^ (ln l i - kn) = c := by
  have hl := (chk_len h).2
  rcases full h with ⟨i, hi, hg, hK⟩ | hK
  · by_cases h0 : kn = 0
    · subst h0
      have hc : c = 0 := by rw [Nat.pow_zero] at h2; omega
      subst hc
      refine ⟨i, hi, by rw [hg]; decide, Nat.zero_le _, ?_⟩
      rw [Nat.sub_zero]
      exact Nat.div_eq_of_lt (code_fits h hi)
    · have e1 := K_S 17 (by omega) hK
      have e2 := S_mono (cn l) (show 2 ≤ kn + 1 by omega)
      have e3 := S_mono (cn l) (show kn + 1 ≤ 17 by omega)
      exact absurd (by rw [ord_length]; omega) (h3 (by omega))
  · exact grow hl hK (16 - kn) kn c (by omega) (Nat.le_refl _) h1 h2 (by rw [Nat.sub_self, Nat.pow_zero, Nat.div_one])
/-- No code is there: too few bits, or no code at all. -/
theorem sdm_miss {l : List Int} (h : chk l 16 = 0) (row : List Bool) (hno : ∀ i, i < l.length → 0 < l.getD i 0 → ¬ mb (code l i) (ln l i) <+: row) (m : Nat) : ∀ kn c t, kn + m = 16 → row = mb c kn ++ t → c < 2 ^ kn → F (cn l) kn + cn l kn ≤ c → (1 ≤ kn → S (cn l) (kn + 1) ≠ (ord l).length) →
    (sdm l m (kn + 1) c t = (0, 0, 3) ∧ ∃ i, i < l.length ∧ 0 < l.getD i 0 ∧ row <+: mb (code l i) (ln l i)) ∨ (sdm l m (kn + 1) c t = (0, 0, 4) ∧ ∀ i, i < l.length → 0 < l.getD i 0 → ¬ row <+: mb (code l i) (ln l i)) := by
  have hl := (chk_len h).2
  have same : ∀ i, i < l.length → 0 < l.getD i 0 → ln l i ≤ row.length → ¬ row <+: mb (code l i) (ln l i) := by
    intro i hi h0 hle hp
    have e : row = mb (code l i) (ln l i) := hp.eq_of_length_le (by rw [mb_length]; exact hle)
    exact hno i hi h0 (by rw [← e]; exact List.prefix_refl _)
  induction m with
  | zero =>
    intro kn c t hk hrow _ _ _
    right
    refine ⟨rfl, fun i hi h0 => same i hi h0 ?_⟩
    have := (ln16 hl hi).1
    rw [hrow, List.length_append, mb_length]
    omega
  | succ m ih =>
    intro kn c t hk hrow hc hF hS
    cases t with
    | nil =>
      left
      refine ⟨rfl, ?_⟩
      obtain ⟨i, i1, i2, i3, i4⟩ := more h (by omega) hF hc hS
      refine ⟨i, i1, i2, ?_⟩
      rw [hrow, List.append_nil, show ln l i = kn + (ln l i - kn) by omega, mb_add]
      rw [i4]
      exact List.prefix_append _ _
    | cons b t =>
      have hrow2 : row = mb (2 * c + (if b = true then 1 else 0)) (kn + 1) ++ t := by rw [mb_snoc, List.append_assoc]; exact hrow
      have hF1 : F (cn l) (kn + 1) = 2 * (F (cn l) kn + cn l kn) := by rw [F]; omega
      have hlen : kn + 1 ≤ row.length := by rw [hrow2, List.length_append, mb_length]; omega
      rw [sdm]
      have hd1 : 2 * c ≤ 2 * c + (if b = true then 1 else 0) := Nat.le_add_right _ _
      have hd2 : 2 * c + (if b = true then 1 else 0) < 2 ^ (kn + 1) := by rw [Nat.pow_succ]; split <;> omega
      obtain ⟨d, hd⟩ : ∃ d : Nat, 2 * c + (if b = true then 1 else 0) = d := ⟨_, rfl⟩
      rw [hd] at hrow2 hd1 hd2
      rw [hd]
      by_cases hlt : d < F (cn l) (kn + 1) + cn l (kn + 1)
      · obtain ⟨i, i1, i2, i3, i4, _⟩ := sym_of hl (show kn + 1 ≤ 16 by omega) (v := d) (by omega) hlt
        exact absurd (by rw [i3, i4, hrow2]; exact List.prefix_append _ _) (hno i i1 i2)
      · rw [if_neg hlt]
        by_cases hs : S (cn l) (kn + 1 + 1) = (ord l).length
        · rw [if_pos hs]
          right
          refine ⟨rfl, fun i hi h0 => same i hi h0 ?_⟩
          apply Nat.le_trans _ hlen
          apply Nat.le_of_not_lt
          intro hgt
          have g1 := S_mono (cn l) (show kn + 1 + 1 ≤ ln l i by omega)
          have g2 := S_step (c := cn l) (show ln l i < 17 by have := (ln16 hl hi).1; omega)
          have g3 := rank_lt hi h0
          rw [ord_length] at hs
          omega
        · rw [if_neg hs]
          exact ih (kn + 1) d t (by omega) hrow2 hd2 (by omega) (fun _ => hs)
end Go.Proofs.Ytpmllmllabjopaa.Pure
