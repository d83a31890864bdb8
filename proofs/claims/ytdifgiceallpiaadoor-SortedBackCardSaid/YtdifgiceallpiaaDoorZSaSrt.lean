/- suffix: the order of all ends, by insertion; there is but one. -/
import Derived.Test.YtdifgiceallpiaaDoorZSaDbl
import Derived.Test.YtdifgiceallpiaaDoorZHSa7
set_option linter.unusedVariables false
set_option linter.unusedSimpArgs false
set_option linter.unusedSectionVars false
namespace Go.Proofs.YtdifgiceallpiaaDoor.Sais
section
variable {x : List Nat}
theorem drop_c {p : Nat} (hp : p < x.length) : x.drop p = x.getD p 0 :: x.drop (p + 1) := by
  rw [List.drop_eq_getElem_cons hp, gD hp]
theorem slt_drop : ∀ (k p q : Nat), p + k < x.length + 1 → q + k < x.length + 1 → (∀ m, m < k → txt x (p + m) = txt x (q + m)) → txt x (p + k) < txt x (q + k) → x.drop p < x.drop q := by
  intro k
  induction k with
  | zero =>
    intro p q hp hq _ hl
    rw [Nat.add_zero, Nat.add_zero] at hl
    unfold txt at hl
    by_cases hq2 : q < x.length
    · rw [if_pos hq2] at hl
      rw [drop_c hq2]
      by_cases hp2 : p < x.length
      · rw [if_pos hp2] at hl
        rw [drop_c hp2, List.cons_lt_cons_iff]
        exact .inl (by omega)
      · rw [List.drop_eq_nil_of_le (by omega)]
        exact List.nil_lt_cons _ _
    · rw [if_neg hq2] at hl
      exact absurd hl (Nat.not_lt_zero _)
  | succ k ih =>
    intro p q hp hq he hl
    have hp2 : p < x.length := by omega
    have hq2 : q < x.length := by omega
    have h0 := he 0 (by omega)
    rw [Nat.add_zero, Nat.add_zero] at h0
    unfold txt at h0
    rw [if_pos hp2, if_pos hq2] at h0
    rw [drop_c hp2, drop_c hq2, List.cons_lt_cons_iff]
    refine .inr ⟨by omega, ih (p + 1) (q + 1) (by omega) (by omega) (fun m hm => ?_) ?_⟩
    · have := he (m + 1) (by omega)
      rw [show p + 1 + m = p + (m + 1) from by omega, show q + 1 + m = q + (m + 1) from by omega]
      exact this
    · rw [show p + 1 + k = p + (k + 1) from by omega, show q + 1 + k = q + (k + 1) from by omega]
      exact hl
theorem sa_srt {sa : List Nat} (h : IsSA (x.length + 1) (txt x) sa) : SrtOk x (sa.drop 1) := by
  have hm := h.p.all x.length (Nat.lt_succ_self _)
  cases sa with
  | nil => cases hm
  | cons a t =>
    rw [List.drop_succ_cons, List.drop_zero]
    have ho := List.pairwise_cons.1 h.o
    have ha : a = x.length := by
      rcases List.mem_cons.1 hm with e | e
      · exact e.symm
      · obtain ⟨k, h1, h2, h3, h4⟩ := ho.1 _ e
        have : txt x (x.length + k) = 0 := by unfold txt; rw [if_neg (by omega)]
        omega
    have hn := List.nodup_cons.1 h.p.nd
    refine ⟨⟨by have := h.p.len; rw [List.length_cons] at this; omega, hn.2, fun y hy => ?_⟩, ho.2.imp (fun {p q} hpq => ?_)⟩
    · have := h.p.lt y (List.mem_cons_of_mem _ hy)
      have hne : y ≠ x.length := fun e => hn.1 (by rw [ha, ← e]; exact hy)
      omega
    · obtain ⟨k, h1, h2, h3, h4⟩ := hpq
      exact slt_drop k p q h1 h2 h3 h4
theorem srt_uniq {a b : List Nat} (ha : SrtOk x a) (hb : SrtOk x b) : a = b := by
  have hp : a.Perm b := (List.perm_ext_iff_of_nodup ha.p.nd hb.p.nd).2 (fun y => ⟨fun h => hb.p.all y (ha.p.lt y h), fun h => ha.p.all y (hb.p.lt y h)⟩)
  exact hp.eq_of_pairwise (fun p q _ _ h1 h2 => absurd (List.lt_trans h1 h2) (List.lt_irrefl _)) ha.o hb.o
end
/-- Where an end belongs. -/
def plc (x l : List Nat) (i : Nat) : Nat → Nat
  | 0 => 0
  | k + 1 => if x.drop i < x.drop (l.getD k 0) then plc x l i k else k + 1
/-- The last ends, so many, in order. -/
def inN (x : List Nat) : Nat → List Nat
  | 0 => []
  | j + 1 => (inN x j).take (plc x (inN x j) (x.length - 1 - j) (inN x j).length) ++ (x.length - 1 - j) :: (inN x j).drop (plc x (inN x j) (x.length - 1 - j) (inN x j).length)
def srtN (x : List Nat) : List Nat := inN x x.length
section
variable {x : List Nat}
theorem plc_le (l : List Nat) (i : Nat) : ∀ k, plc x l i k ≤ k := by
  intro k
  induction k with
  | zero => exact Nat.le_refl _
  | succ k ih => unfold plc; split <;> omega
theorem plc_hi (l : List Nat) (i : Nat) : ∀ k m, plc x l i k ≤ m → m < k → x.drop i < x.drop (l.getD m 0) := by
  intro k
  induction k with
  | zero => intro m _ h; omega
  | succ k ih =>
    intro m h1 h2
    unfold plc at h1
    split at h1
    · rename_i h
      rcases Nat.lt_or_ge m k with h3 | h3
      · exact ih m h1 h3
      · have : m = k := by omega
        rw [this]; exact h
    · omega
theorem plc_lo (l : List Nat) (i : Nat) : ∀ k, 0 < plc x l i k → ¬ x.drop i < x.drop (l.getD (plc x l i k - 1) 0) := by
  intro k
  induction k with
  | zero => intro h; exact absurd h (by unfold plc; omega)
  | succ k ih =>
    unfold plc
    split
    · exact ih
    · rename_i h
      intro _
      rw [Nat.add_sub_cancel]; exact h
structure InN (x : List Nat) (j : Nat) (l : List Nat) : Prop where
  len : l.length = j
  nd : l.Nodup
  lt : ∀ y ∈ l, y < x.length
  ge : ∀ y ∈ l, x.length - j ≤ y
  o : l.Pairwise (fun p q => x.drop p < x.drop q)
theorem inN_ok : ∀ j, j ≤ x.length → InN x j (inN x j) := by
  intro j
  induction j with
  | zero => intro _; exact ⟨rfl, List.nodup_nil, (fun _ h => nomatch h), (fun _ h => nomatch h), List.Pairwise.nil⟩
  | succ j ih =>
    intro hj
    have I := ih (by omega)
    unfold inN
    generalize inN x j = l at I
    generalize hi : x.length - 1 - j = i
    have hni : i ∉ l := fun h => by have := I.ge i h; omega
    have hil : i < x.length := by omega
    have hle := plc_le (x := x) l i l.length
    have hhi := plc_hi (x := x) l i l.length
    have hlo := plc_lo (x := x) l i l.length
    generalize plc x l i l.length = a at hle hhi hlo
    have gm : ∀ m, m < l.length → l.getD m 0 ∈ l := fun m hm => by rw [List.getD_eq_getElem?_getD, List.getElem?_eq_getElem hm]; exact List.getElem_mem _
    have hL : ∀ p ∈ l.take a, x.drop p < x.drop i := by
      intro p hp
      have ha : 0 < a := by
        rcases Nat.eq_zero_or_pos a with e | e
        · rw [e, List.take_zero] at hp; cases hp
        · exact e
      have h1 := hlo ha
      have hm := gm (a - 1) (by omega)
      have hz : x.drop (l.getD (a - 1) 0) < x.drop i := by
        rcases List.le_iff_lt_or_eq.1 (List.not_lt.1 h1) with h | h
        · exact h
        · exact absurd h (drop_ne (I.lt _ hm) hil (fun e => hni (by rw [← e]; exact hm)))
      obtain ⟨m, hml, he⟩ := List.mem_iff_getElem.1 hp
      rw [List.length_take] at hml
      rw [List.getElem_take] at he
      rcases Nat.lt_or_ge m (a - 1) with h | h
      · have := List.pairwise_iff_getElem.1 I.o m (a - 1) (by omega) (by omega) h
        rw [he] at this
        rw [List.getD_eq_getElem?_getD, List.getElem?_eq_getElem (by omega)] at hz
        exact List.lt_trans this hz
      · have em : m = a - 1 := by omega
        subst em
        rw [List.getD_eq_getElem?_getD, List.getElem?_eq_getElem (by omega)] at hz
        rw [← he]; exact hz
    have hR : ∀ q ∈ l.drop a, x.drop i < x.drop q := by
      intro q hq
      obtain ⟨m, hml, he⟩ := List.mem_iff_getElem.1 hq
      rw [List.length_drop] at hml
      rw [List.getElem_drop] at he
      have := hhi (a + m) (by omega) (by omega)
      rw [List.getD_eq_getElem?_getD, List.getElem?_eq_getElem (by omega)] at this
      rw [← he]; exact this
    have hmem : ∀ y, y ∈ l.take a ++ i :: l.drop a ↔ y = i ∨ y ∈ l := by
      intro y
      rw [List.mem_append, List.mem_cons]
      constructor
      · rintro (h | h | h)
        · exact .inr (List.mem_of_mem_take h)
        · exact .inl h
        · exact .inr (List.mem_of_mem_drop h)
      · rintro (h | h)
        · exact .inr (.inl h)
        · rw [← List.take_append_drop a l, List.mem_append] at h
          rcases h with h | h
          · exact .inl h
          · exact .inr (.inr h)
    have ho : (l.take a ++ i :: l.drop a).Pairwise (fun p q => x.drop p < x.drop q) := by
      refine List.pairwise_append.2 ⟨I.o.sublist (List.take_sublist _ _), List.pairwise_cons.2 ⟨hR, I.o.sublist (List.drop_sublist _ _)⟩, fun p hp q hq => ?_⟩
      rcases List.mem_cons.1 hq with h | h
      · rw [h]; exact hL p hp
      · exact List.lt_trans (hL p hp) (hR q h)
    refine ⟨?_, ?_, fun y hy => ?_, fun y hy => ?_, ho⟩
    · rw [List.length_append, List.length_cons, List.length_take, List.length_drop]
      have := I.len
      omega
    · exact List.nodup_iff_pairwise_ne.2 (ho.imp (fun {p q} (h : x.drop p < x.drop q) (e : p = q) => List.lt_irrefl (x.drop q) (by rw [e] at h; exact h)))
    · rcases (hmem y).1 hy with h | h
      · omega
      · exact I.lt y h
    · rcases (hmem y).1 hy with h | h
      · omega
      · have := I.ge y h; omega
theorem srtN_ok (x : List Nat) : SrtOk x (srtN x) := by
  have h := inN_ok (x := x) x.length (Nat.le_refl _)
  exact ⟨⟨h.len, h.nd, h.lt⟩, h.o⟩
theorem srt_is {a : List Nat} (ha : SrtOk x a) : a = srtN x := srt_uniq ha (srtN_ok x)
end
example : srtN [98, 97, 110, 97, 110, 97] = [5, 3, 1, 0, 4, 2] := by decide +kernel
end Go.Proofs.YtdifgiceallpiaaDoor.Sais
