/- Sorting ends by twice as many bytes each time, plainly. -/
import Derived.Test.YtdifgiceallpiaaDoorZSa
set_option linter.unusedVariables false
set_option linter.unusedSimpArgs false
set_option linter.unusedSectionVars false
namespace Go.Proofs.YtdifgiceallpiaaDoor.Sais
/-! ### sorting places by ranks, those that are alike as they came -/
section
variable (P : List Nat) (rank : Nat → Nat)
def bP (i : Nat) : Nat := rank (P.getD i 0)
/-- Where a place goes. -/
def sg (i : Nat) : Nat := hd P.length (bP P rank) upB (bP P rank i) + cnt i (fun j => bP P rank j == bP P rank i)
def outF : Nat → Nat → Nat
  | 0, _ => 0
  | j + 1, k => if k = sg P rank j then P.getD j 0 else outF j k
def csL : List Nat := (List.range P.length).map (outF P rank P.length)
end
section
variable {P : List Nat} {rank : Nat → Nat}
theorem cnt_lt {i k : Nat} {q : Nat → Bool} (h : i < k) (hq : q i = true) : cnt i q < cnt k q := by
  have h1 : cnt (i + 1) q = cnt i q + 1 := by
    unfold cnt
    rw [List.range_succ, List.filter_append, List.length_append]
    simp [hq]
  have h2 : ∀ d, cnt (i + 1) q ≤ cnt (i + 1 + d) q := by
    intro d
    induction d with
    | zero => exact Nat.le_refl _
    | succ d ih =>
      refine Nat.le_trans ih ?_
      unfold cnt
      rw [show i + 1 + (d + 1) = (i + 1 + d) + 1 from by omega, List.range_succ, List.filter_append, List.length_append]
      omega
  have := h2 (k - (i + 1))
  rw [show i + 1 + (k - (i + 1)) = k from by omega] at this
  omega
theorem sg_lt {i : Nat} (hi : i < P.length) : sg P rank i < hd P.length (bP P rank) upB (bP P rank i) + sz P.length (bP P rank) (bP P rank i) := by
  have : cnt i (fun j => bP P rank j == bP P rank i) < sz P.length (bP P rank) (bP P rank i) := cnt_lt hi (by simp)
  unfold sg
  omega
theorem sg_n {i : Nat} (hi : i < P.length) : sg P rank i < P.length := Nat.lt_of_lt_of_le (sg_lt hi) (up_n _)
theorem sg_mono {i k : Nat} (hi : i < P.length) (hk : k < P.length) (h : bP P rank i < bP P rank k ∨ (bP P rank i = bP P rank k ∧ i < k)) : sg P rank i < sg P rank k := by
  rcases h with h | ⟨h, h2⟩
  · have h1 := sg_lt (rank := rank) hi
    have h3 := up_mono (n := P.length) (s := bP P rank) h
    have : hd P.length (bP P rank) upB (bP P rank k) ≤ sg P rank k := Nat.le_add_right _ _
    omega
  · have : cnt i (fun j => bP P rank j == bP P rank i) < cnt k (fun j => bP P rank j == bP P rank i) := cnt_lt h2 (by simp)
    unfold sg
    rw [← h]
    omega
theorem sg_inv {i k : Nat} (hi : i < P.length) (hk : k < P.length) (h : sg P rank i < sg P rank k) : bP P rank i < bP P rank k ∨ (bP P rank i = bP P rank k ∧ i < k) := by
  rcases Nat.lt_trichotomy (bP P rank i) (bP P rank k) with h1 | h1 | h1
  · exact .inl h1
  · rcases Nat.lt_trichotomy i k with h2 | h2 | h2
    · exact .inr ⟨h1, h2⟩
    · subst h2; omega
    · have := sg_mono hk hi (.inr ⟨h1.symm, h2⟩); omega
  · have := sg_mono hk hi (.inl h1); omega
theorem sg_inj {i k : Nat} (hi : i < P.length) (hk : k < P.length) (h : sg P rank i = sg P rank k) : i = k := by
  rcases Nat.lt_trichotomy (bP P rank i) (bP P rank k) with h1 | h1 | h1
  · have := sg_mono hi hk (.inl h1); omega
  · rcases Nat.lt_trichotomy i k with h2 | h2 | h2
    · have := sg_mono hi hk (.inr ⟨h1, h2⟩); omega
    · exact h2
    · have := sg_mono hk hi (.inr ⟨h1.symm, h2⟩); omega
  · have := sg_mono hk hi (.inl h1); omega
theorem outF_at : ∀ m, m ≤ P.length → ∀ i, i < m → outF P rank m (sg P rank i) = P.getD i 0 := by
  intro m
  induction m with
  | zero => intro _ i hi; omega
  | succ m ih =>
    intro hm i hi
    rw [outF]
    by_cases e : i = m
    · rw [e, if_pos rfl]
    · rw [if_neg (fun h => e (sg_inj (P := P) (rank := rank) (i := i) (k := m) (by omega) (by omega) h))]
      exact ih (by omega) i (by omega)
theorem sg_sur {k : Nat} (hk : k < P.length) : ∃ i, i < P.length ∧ sg P rank i = k :=
  range_all (fun i hi => sg_n hi) (fun i j hi hj e => sg_inj hi hj e) k hk
theorem csL_len : (csL P rank).length = P.length := by simp [csL]
theorem csL_get {k : Nat} (hk : k < P.length) : ∃ i, i < P.length ∧ sg P rank i = k ∧ (csL P rank)[k]? = some (P.getD i 0) := by
  obtain ⟨i, hi, e⟩ := sg_sur (rank := rank) hk
  refine ⟨i, hi, e, ?_⟩
  unfold csL
  rw [List.getElem?_map, List.getElem?_range hk, Option.map_some, ← e, outF_at _ (Nat.le_refl _) i hi]
theorem gD {l : List Nat} {i : Nat} (h : i < l.length) : l.getD i 0 = l[i] := by rw [List.getD_eq_getElem?_getD, List.getElem?_eq_getElem h]; rfl
theorem csL_rel {R : Nat → Nat → Prop} (hR : P.Pairwise R) : (csL P rank).Pairwise (fun x y => rank x < rank y ∨ (rank x = rank y ∧ R x y)) := by
  rw [List.pairwise_iff_getElem]
  intro a b ha hb hab
  rw [csL_len] at ha hb
  obtain ⟨i, hi, ei, gi⟩ := csL_get (rank := rank) ha
  obtain ⟨k, hk, ek, gk⟩ := csL_get (rank := rank) hb
  have e1 := (List.getElem?_eq_some_iff.1 gi).2
  have e2 := (List.getElem?_eq_some_iff.1 gk).2
  rw [e1, e2]
  rcases sg_inv (rank := rank) hi hk (by rw [ei, ek]; exact hab) with h | ⟨h, h2⟩
  · exact .inl h
  · refine .inr ⟨h, ?_⟩
    rw [gD hi, gD hk]
    exact List.pairwise_iff_getElem.1 hR i k hi hk h2
theorem csL_perm {n : Nat} (hP : Perm0 n P) : Perm0 n (csL P rank) := by
  refine ⟨by rw [csL_len, hP.len], ?_, fun x hx => ?_⟩
  · rw [List.nodup_iff_pairwise_ne]
    have h := csL_rel (rank := rank) (List.nodup_iff_pairwise_ne.1 hP.nd)
    refine h.imp (fun {a b} h => ?_)
    rcases h with h | h
    · rintro rfl; omega
    · exact h.2
  · obtain ⟨k, hk, e⟩ := List.mem_iff_getElem.1 hx
    rw [csL_len] at hk
    obtain ⟨i, hi, _, gi⟩ := csL_get (rank := rank) hk
    have := (List.getElem?_eq_some_iff.1 gi).2
    rw [← e, this, gD hi]
    exact hP.lt _ (List.getElem_mem hi)
end
/-! ### ends by twice as many bytes each time -/
section
variable (x : List Nat)
def pre (h p : Nat) : List Nat := (x.drop p).take h
structure DbInv (h : Nat) (rk : Nat → Nat) : Prop where
  h1 : 1 ≤ h
  a : ∀ p q, p < x.length → q < x.length → rk p < rk q → pre x h p < pre x h q
  b : ∀ p q, p < x.length → q < x.length → rk p = rk q → pre x h p = pre x h q
  c : ∀ p, p < x.length → 1 ≤ rk p
def snd2 (h : Nat) (rk : Nat → Nat) (p : Nat) : Nat := if x.length ≤ p + h then 0 else rk (p + h)
end
section
variable {x : List Nat}
theorem pre_two (h p : Nat) : pre x (h + h) p = pre x h p ++ pre x h (p + h) := by
  unfold pre
  rw [List.take_add, List.drop_drop]
theorem pre_nil {h p : Nat} (hp : x.length ≤ p) : pre x h p = [] := by
  unfold pre
  rw [List.drop_eq_nil_of_le hp, List.take_nil]
theorem pre_len (h p : Nat) : (pre x h p).length = min h (x.length - p) := by
  unfold pre
  rw [List.length_take, List.length_drop]
theorem lt_append_left {a b : List Nat} (u v : List Nat) (h : a < b) (hl : ∀ t, b = a ++ t → u = []) : a ++ u < b ++ v := by
  induction a generalizing b with
  | nil =>
    rw [hl b rfl, List.nil_append]
    cases b with
    | nil => exact absurd h (List.lt_irrefl _)
    | cons y t => exact List.nil_lt_cons _ _
  | cons y a ih =>
    cases b with
    | nil => exact absurd h (List.not_lt_nil _)
    | cons z b =>
      rw [List.cons_append, List.cons_append, List.cons_lt_cons_iff]
      rcases List.cons_lt_cons_iff.1 h with h1 | ⟨h1, h2⟩
      · exact .inl h1
      · refine .inr ⟨h1, ih h2 (fun t e => hl t (by rw [e, h1]; rfl))⟩
theorem lt_append_right {a u v : List Nat} (h : u < v) : a ++ u < a ++ v := by
  induction a with
  | nil => exact h
  | cons y a ih => rw [List.cons_append, List.cons_append, List.cons_lt_cons_iff]; exact .inr ⟨rfl, ih⟩
/-- A less beginning makes a less one of twice the length. -/
theorem pre_lt1 {h p q : Nat} (hl : pre x h p < pre x h q) : pre x (h + h) p < pre x (h + h) q := by
  rw [pre_two, pre_two]
  refine lt_append_left _ _ hl (fun t e => ?_)
  have h1 := congrArg List.length e
  rw [List.length_append, pre_len, pre_len] at h1
  cases t with
  | nil => rw [List.append_nil] at e; rw [e] at hl; exact absurd hl (List.lt_irrefl _)
  | cons y t =>
    rw [List.length_cons] at h1
    exact pre_nil (by omega)
theorem pre_lt2 {h p q : Nat} (he : pre x h p = pre x h q) (hl : pre x h (p + h) < pre x h (q + h)) : pre x (h + h) p < pre x (h + h) q := by
  rw [pre_two, pre_two, he]
  exact lt_append_right hl
theorem pre_eq2 {h p q : Nat} (he : pre x h p = pre x h q) (hl : pre x h (p + h) = pre x h (q + h)) : pre x (h + h) p = pre x (h + h) q := by
  rw [pre_two, pre_two, he, hl]
theorem snd_lt {h : Nat} {rk : Nat → Nat} (hI : DbInv x h rk) {p q : Nat} (hl : snd2 x h rk p < snd2 x h rk q) : pre x h (p + h) < pre x h (q + h) := by
  unfold snd2 at hl
  by_cases h1 : x.length ≤ p + h
  · rw [if_pos h1] at hl
    by_cases h2 : x.length ≤ q + h
    · rw [if_pos h2] at hl; omega
    · rw [pre_nil h1]
      have := pre_len (x := x) h (q + h)
      cases hc : pre x h (q + h) with
      | nil =>
        rw [hc, List.length_nil] at this
        rw [if_neg h2] at hl
        have := hI.h1
        omega
      | cons y t => exact List.nil_lt_cons _ _
  · rw [if_neg h1] at hl
    by_cases h2 : x.length ≤ q + h
    · rw [if_pos h2] at hl; omega
    · rw [if_neg h2] at hl
      exact hI.a _ _ (by omega) (by omega) hl
theorem snd_eq {h : Nat} {rk : Nat → Nat} (hI : DbInv x h rk) {p q : Nat} (hl : snd2 x h rk p = snd2 x h rk q) : pre x h (p + h) = pre x h (q + h) := by
  unfold snd2 at hl
  by_cases h1 : x.length ≤ p + h
  · rw [if_pos h1] at hl
    by_cases h2 : x.length ≤ q + h
    · rw [pre_nil h1, pre_nil h2]
    · rw [if_neg h2] at hl
      have := hI.c (q + h) (by omega)
      omega
  · rw [if_neg h1] at hl
    by_cases h2 : x.length ≤ q + h
    · rw [if_pos h2] at hl
      have := hI.c (p + h) (by omega)
      omega
    · rw [if_neg h2] at hl
      exact hI.b _ _ (by omega) (by omega) hl
/-- Sorted by the second ranks, then by the first: sorted by twice as many bytes. -/
theorem dbl_ord {h : Nat} {rk : Nat → Nat} (hI : DbInv x h rk) {a : List Nat} (ha : Perm0 x.length a) :
    Perm0 x.length (csL (csL a (snd2 x h rk)) rk) ∧ (csL (csL a (snd2 x h rk)) rk).Pairwise (fun p q => pre x (h + h) p ≤ pre x (h + h) q) := by
  have h1 := csL_rel (P := a) (rank := snd2 x h rk) (R := fun _ _ => True) (List.pairwise_of_forall (fun _ _ => trivial))
  have p1 := csL_perm (rank := snd2 x h rk) ha
  have h2 := csL_rel (P := csL a (snd2 x h rk)) (rank := rk) h1
  have p2 := csL_perm (rank := rk) p1
  refine ⟨p2, List.Pairwise.imp_of_mem (fun {p q} hp hq hpq => ?_) h2⟩
  have hp := p2.lt p hp
  have hq := p2.lt q hq
  rcases hpq with h3 | ⟨h3, h4 | ⟨h4, _⟩⟩
  · exact List.le_iff_lt_or_eq.2 (.inl (pre_lt1 (hI.a p q hp hq h3)))
  · exact List.le_iff_lt_or_eq.2 (.inl (pre_lt2 (hI.b p q hp hq h3) (snd_lt hI h4)))
  · exact List.le_iff_lt_or_eq.2 (.inr (pre_eq2 (hI.b p q hp hq h3) (snd_eq hI h4)))
/-- The two ranks tell beginnings of twice the length apart. -/
theorem dbl_same {h : Nat} {rk : Nat → Nat} (hI : DbInv x h rk) {p q : Nat} (hp : p < x.length) (hq : q < x.length) : (rk p = rk q ∧ snd2 x h rk p = snd2 x h rk q) ↔ pre x (h + h) p = pre x (h + h) q := by
  constructor
  · rintro ⟨h1, h2⟩
    exact pre_eq2 (hI.b p q hp hq h1) (snd_eq hI h2)
  · intro e
    have hne : ∀ {u v : List Nat}, u < v → u ≠ v := fun h e => by rw [e] at h; exact absurd h (List.lt_irrefl _)
    have h1 : rk p = rk q := by
      rcases Nat.lt_trichotomy (rk p) (rk q) with h1 | h1 | h1
      · exact absurd e (hne (pre_lt1 (hI.a p q hp hq h1)))
      · exact h1
      · exact absurd e.symm (hne (pre_lt1 (hI.a q p hq hp h1)))
    refine ⟨h1, ?_⟩
    rcases Nat.lt_trichotomy (snd2 x h rk p) (snd2 x h rk q) with h2 | h2 | h2
    · exact absurd e (hne (pre_lt2 (hI.b p q hp hq h1) (snd_lt hI h2)))
    · exact h2
    · exact absurd e.symm (hne (pre_lt2 (hI.b q p hq hp h1.symm) (snd_lt hI h2)))
/-- A sorted row of ends. -/
structure SrtOk (x : List Nat) (a : List Nat) : Prop where
  p : Perm0 x.length a
  o : a.Pairwise (fun p q => x.drop p < x.drop q)
theorem drop_ne {p q : Nat} (hp : p < x.length) (hq : q < x.length) (h : p ≠ q) : x.drop p ≠ x.drop q := by
  intro e
  have := congrArg List.length e
  rw [List.length_drop, List.length_drop] at this
  omega
theorem drop_lt_of_pre {h p q : Nat} (hl : pre x h p < pre x h q) : x.drop p < x.drop q := by
  have e1 : x.drop p = pre x h p ++ (x.drop p).drop h := (List.take_append_drop _ _).symm
  have e2 : x.drop q = pre x h q ++ (x.drop q).drop h := (List.take_append_drop _ _).symm
  rw [e1, e2]
  refine lt_append_left _ _ hl (fun t e => ?_)
  have h1 := congrArg List.length e
  rw [List.length_append, pre_len, pre_len] at h1
  cases t with
  | nil => rw [List.append_nil] at e; rw [e] at hl; exact absurd hl (List.lt_irrefl _)
  | cons y t =>
    rw [List.length_cons] at h1
    rw [List.drop_drop]
    exact List.drop_eq_nil_of_le (by omega)
/-- At the end: beginnings that are all, or all apart. -/
theorem srt_all {h : Nat} {a : List Nat} (ha : Perm0 x.length a) (ho : a.Pairwise (fun p q => pre x h p ≤ pre x h q)) (hd : ∀ p q, p < x.length → q < x.length → pre x h p = pre x h q → p = q) : SrtOk x a := by
  refine ⟨ha, List.Pairwise.imp_of_mem (fun {p q} hp hq hpq => ?_) (ho.and (List.nodup_iff_pairwise_ne.1 ha.nd))⟩
  have hp := ha.lt p hp
  have hq := ha.lt q hq
  rcases List.le_iff_lt_or_eq.1 hpq.1 with h1 | h1
  · exact drop_lt_of_pre h1
  · exact absurd (hd p q hp hq h1) hpq.2
theorem pre_all {h p q : Nat} (hh : x.length ≤ h) (hp : p < x.length) (hq : q < x.length) (e : pre x h p = pre x h q) : p = q := by
  have h1 := congrArg List.length e
  rw [pre_len, pre_len] at h1
  omega
/-- The names, from 1 on, are ranks for twice the length. -/
theorem dbl_next {h : Nat} {a : List Nat} (h1 : 1 ≤ h) (ha : Perm0 x.length a) (ho : a.Pairwise (fun p q => pre x h p ≤ pre x h q)) : DbInv x h (fun p => (nmL (pre x h) a).1 p + 1) := by
  have hk := nm_ok a.length a rfl ha.nd ho
  refine ⟨h1, fun p q hp hq hl => ?_, fun p q hp hq hl => ?_, fun p _ => by omega⟩
  · exact hk.a p q (ha.all p hp) (ha.all q hq) (by omega)
  · exact hk.b p q (ha.all p hp) (ha.all q hq) (by omega)
theorem dbl_apart {h : Nat} {a : List Nat} (ha : Perm0 x.length a) (ho : a.Pairwise (fun p q => pre x h p ≤ pre x h q)) (hm : x.length ≤ (nmL (pre x h) a).2.1 + 1) : ∀ p q, p < x.length → q < x.length → pre x h p = pre x h q → p = q := by
  intro p q hp hq e
  have hk := nm_ok a.length a rfl ha.nd ho
  have hlen := ha.len
  cases hL : a.getLast? with
  | none =>
    have := List.getLast?_eq_none_iff.1 hL
    rw [this, List.length_nil] at hlen
    omega
  | some z =>
    have h3 := (hk.l z hL).2.2
    have hd := hk.d (by omega)
    obtain ⟨i, hi, ei⟩ := List.mem_iff_getElem.1 (ha.all p hp)
    obtain ⟨k, hk2, ek⟩ := List.mem_iff_getElem.1 (ha.all q hq)
    have d1 := hd i p (by rw [List.getElem?_eq_getElem hi, ei])
    have d2 := hd k q (by rw [List.getElem?_eq_getElem hk2, ek])
    rcases Nat.lt_trichotomy i k with h4 | h4 | h4
    · have := hk.a p q (ha.all p hp) (ha.all q hq) (by omega)
      rw [e] at this
      exact absurd this (List.lt_irrefl _)
    · subst h4; rw [← ei, ← ek]
    · have := hk.a q p (ha.all q hq) (ha.all p hp) (by omega)
      rw [e] at this
      exact absurd this (List.lt_irrefl _)
end
end Go.Proofs.YtdifgiceallpiaaDoor.Sais
