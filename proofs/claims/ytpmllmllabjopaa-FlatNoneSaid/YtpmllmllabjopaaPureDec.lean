/- What the reference's Decode computes. -/
import Derived.Test.YtpmllmllabjopaaPureSlB
import Derived.Test.YtpmllmllabjopaaPx5
set_option linter.unusedVariables false
set_option linter.unusedSimpArgs false
set_option linter.unusedSectionVars false
namespace Go.Proofs.Ytpmllmllabjopaa.Pure
open Go.RowKit Go.Proofs.YtpmllmllabjopaaW.PrintWords Go.Proofs.YtpmllmllabjopaaW.PrintMore Go.Proofs.Ytpmllmllabjopaa.P Go.Proofs.Ytpmllmllabjopaa.Com Go.Proofs.Ytpmllmllabjopaa.Cn Go.Proofs.Ytpmllmllabjopaa.Hd
attribute [local irreducible] ord pos code
theorem bits_l0 (c : Nat) (m : Nat) (hm : m ≤ 16) : ∀ acc : List Bool, acc.length + m ≤ 1000000 → Ev (fun k => gladstoneref09_bits.l0 k (c : Int) acc ((m : Int) - 1)) (acc ++ mb c m) := by
  induction m with
  | zero =>
    intro acc _
    refine Ev.step (f := fun _ => some acc) (fun k => ?_) (by rw [mb, List.append_nil]; exact Ev.now _)
    simp only [gladstoneref09_bits.l0]
    rw [if_neg (by omega)]
  | succ m ih =>
    intro acc ha
    refine Ev.step (fun k => ?_) (show Ev (fun k => gladstoneref09_bits.l0 k (c : Int) (acc ++ [c / 2 ^ m % 2 == 1]) ((m : Int) - 1)) (acc ++ mb c (m + 1)) from ?_)
    · simp only [gladstoneref09_bits.l0]
      have e1 : IntKind.u64.wrap (((m + 1 : Nat) : Int) - 1) = (m : Int) := by rw [wu64 (by omega) (by omega)]; omega
      have e2 : wrap64 (((m + 1 : Nat) : Int) - 1 - 1) = (m : Int) - 1 := by rw [w64 (by omega) (by omega)]; omega
      rw [if_pos (by omega), e1, if_pos (by omega), if_pos (by omega), e2, shr_nat64 _ _ (by omega), and_one]
      have e3 : ((((c / 2 ^ m : Nat) : Int) % 2) == 1) = (c / 2 ^ m % 2 == 1) := by
        by_cases h : c / 2 ^ m % 2 = 1
        · rw [show (((c / 2 ^ m : Nat) : Int) % 2) = 1 by omega, h]; rfl
        · have h0 : c / 2 ^ m % 2 = 0 := by omega
          rw [show (((c / 2 ^ m : Nat) : Int) % 2) = 0 by omega, h0]; rfl
      rw [e3]
    · have h := ih (by omega) (acc ++ [c / 2 ^ m % 2 == 1]) (by rw [List.length_append, List.length_singleton]; omega)
      rw [List.append_assoc] at h
      exact h
theorem bits_ev (c n : Nat) (hn : n ≤ 16) : Ev (fun k => gladstoneref09_bits.f k (c : Int) (n : Int)) (mb c n) := by
  have h := bits_l0 c n hn [] (by rw [List.length_nil]; omega)
  rw [List.nil_append] at h
  refine Ev.congr (fun k => ?_) h
  unfold gladstoneref09_bits.f
  rw [w64 (by omega) (by omega)]
theorem begins_l0 (a b : List Bool) (hab : b.length ≤ a.length) (hb : a.length ≤ 1000000) (d : Nat) : ∀ i, i + d = b.length → Ev (fun k => gladstoneref09_begins.l0 k a b (i : Int)) (decide (b.drop i <+: a.drop i)) := by
  induction d with
  | zero =>
    intro i hi
    have e : decide (b.drop i <+: a.drop i) = true := by
      rw [List.drop_eq_nil_of_le (show b.length ≤ i by omega)]; exact decide_eq_true (List.nil_prefix)
    rw [e]
    refine Ev.step (f := fun _ => some true) (fun k => ?_) (Ev.now _)
    simp only [gladstoneref09_begins.l0]
    rw [if_neg (by omega)]
  | succ d ih =>
    intro i hi
    have hib : i < b.length := by omega
    have hia : i < a.length := by omega
    have eb : b.drop i = b.getD i false :: b.drop (i + 1) := by
      rw [List.drop_eq_getElem_cons hib, List.getD_eq_getElem?_getD, List.getElem?_eq_getElem hib]; rfl
    have ea : a.drop i = a.getD i false :: a.drop (i + 1) := by
      rw [List.drop_eq_getElem_cons hia, List.getD_eq_getElem?_getD, List.getElem?_eq_getElem hia]; rfl
    have ew : wrap64 ((i : Int) + 1) = ((i + 1 : Nat) : Int) := by rw [w64 (by omega) (by omega)]; omega
    by_cases hx : b.getD i false = a.getD i false
    · have e : decide (b.drop i <+: a.drop i) = decide (b.drop (i + 1) <+: a.drop (i + 1)) := by
        rw [eb, ea]
        exact decide_eq_decide.2 (by rw [List.cons_prefix_cons]; exact ⟨fun h => h.2, fun h => ⟨hx, h⟩⟩)
      rw [e]
      refine Ev.step (fun k => ?_) (ih (i + 1) (by omega))
      simp only [gladstoneref09_begins.l0]
      rw [if_pos (by omega), if_pos (by omega), if_pos (by omega), rdOf_nat, rdOf_nat, hx, bne_self_eq_false, if_neg (by decide), ew]
    · have e : decide (b.drop i <+: a.drop i) = false := by
        rw [eb, ea]
        exact decide_eq_false (by rw [List.cons_prefix_cons]; exact fun h => hx h.1)
      rw [e]
      refine Ev.step (f := fun _ => some false) (fun k => ?_) (Ev.now _)
      simp only [gladstoneref09_begins.l0]
      rw [if_pos (by omega), if_pos (by omega), if_pos (by omega), rdOf_nat, rdOf_nat, if_pos (bne_iff_ne.2 (fun h => hx h.symm))]
theorem begins_ev (a b : List Bool) (hb : a.length ≤ 1000000) : Ev (fun k => gladstoneref09_begins.f k a b) (decide (b <+: a)) := by
  by_cases h : b.length ≤ a.length
  · have h1 := begins_l0 a b h hb b.length 0 (by omega)
    rw [List.drop_zero, List.drop_zero] at h1
    refine Ev.congr (fun k => ?_) h1
    unfold gladstoneref09_begins.f
    rw [if_neg (by omega)]
    rfl
  · rw [decide_eq_false (fun hp => h hp.length_le)]
    refine Ev.congr (f := fun _ => some false) (fun k => ?_) (Ev.now _)
    unfold gladstoneref09_begins.f
    rw [if_pos (by omega)]
theorem dec_zero {l : List Int} (hn : l.length ≤ 1024) (row : List Bool) {i : Nat} (hi : i < l.length) (h0 : l.getD i 0 = 0) {s : Bool} {R : Int × Int × Int} (h : Ev (fun k => gladstoneref09_Decode.l0 k l row (codesL l) s ((i + 1 : Nat) : Int)) R) : Ev (fun k => gladstoneref09_Decode.l0 k l row (codesL l) s (i : Int)) R := by
  refine Ev.step (fun k => ?_) h
  simp only [gladstoneref09_Decode.l0]
  have ew : wrap64 ((i : Int) + 1) = ((i + 1 : Nat) : Int) := by rw [w64 (by omega) (by omega)]; omega
  rw [if_pos (by omega), if_pos (by omega), rd_nat, if_pos h0, ew]
theorem dec_code {l : List Int} (hc : chk l 16 = 0) (row : List Bool) (hr : row.length ≤ 1000) {i : Nat} (hi : i < l.length) (h0 : 0 < l.getD i 0) {s : Bool} {R : Int × Int × Int}
    (h : Ev (fun k => if decide (mb (code l i) (ln l i) <+: row) = true then some ((i : Int), (ln l i : Int), (0 : Int)) else gladstoneref09_Decode.l0 k l row (codesL l) (s || decide (row <+: mb (code l i) (ln l i))) ((i + 1 : Nat) : Int)) R) : Ev (fun k => gladstoneref09_Decode.l0 k l row (codesL l) s (i : Int)) R := by
  have hn := (chk_len hc).1
  have hl := (ln16 (chk_len hc).2 hi).1
  have hp := ln_pos h0
  have ew : wrap64 ((i : Int) + 1) = ((i + 1 : Nat) : Int) := by rw [w64 (by omega) (by omega)]; omega
  refine Ev.step (f := fun k => (gladstoneref09_bits.f k (code l i : Int) (ln l i : Int)).bind fun t191 => ((gladstoneref09_begins.f k row t191).bind fun t194 => (if t194 = true then (some ((i : Int), (ln l i : Int), 0)) else (if s = true then (gladstoneref09_Decode.l0 k l row (codesL l) true ((i + 1 : Nat) : Int)) else ((gladstoneref09_begins.f k t191 row).bind fun t196 => (gladstoneref09_Decode.l0 k l row (codesL l) t196 ((i + 1 : Nat) : Int))))))) (fun k => ?_) ?_
  · simp only [gladstoneref09_Decode.l0]
    rw [if_pos (by omega), if_pos (by omega), l_rd (chk_len hc).2 hi, if_neg (by omega), codes_len, if_pos (by omega), codes_rd hi, ew]
  · refine Ev.bind (bits_ev _ _ hl) ?_
    refine Ev.bind (begins_ev row _ (by omega)) ?_
    by_cases hx : decide (mb (code l i) (ln l i) <+: row) = true
    · simp only [hx, if_true] at h ⊢
      exact h
    · simp only [hx] at h ⊢
      cases s with
      | true => simpa using h
      | false =>
        have h2 := Ev.bind (f := fun k t196 => gladstoneref09_Decode.l0 k l row (codesL l) t196 ((i + 1 : Nat) : Int)) (begins_ev (mb (code l i) (ln l i)) row (by rw [mb_length]; omega)) (by simpa using h)
        simpa using h2
theorem sdm_code {l : List Int} (h : chk l 16 = 0) {i : Nat} (hi : i < l.length) (h0 : 0 < l.getD i 0) (rest : List Bool) : sdm l 16 1 0 (mb (code l i) (ln l i) ++ rest) = ((i : Int), (ln l i : Int), 0) := by
  have hl := (chk_len h).2
  have hp := ln_pos h0
  have h16 := (ln16 hl hi).1
  have hc := code_in hi h0
  have hs := sdm_hit h h16 hc.1 hc.2 rest (ln l i - 1) 15 1 (by omega) (by omega)
  rw [show ln l i - 1 + 1 = ln l i by omega, Nat.div_eq_of_lt (code_fits h hi)] at hs
  have ho := (od_pos hl hi h0).2
  have e : pos l i = S (cn l) (ln l i) + rank l i := by unfold pos; rfl
  rw [e] at ho
  have e2 : code l i - F (cn l) (ln l i) = rank l i := by rw [code_pos h0]; omega
  rw [e2, ho] at hs
  exact hs
theorem dec_hit {l : List Int} (h : chk l 16 = 0) (row : List Bool) (hr : row.length ≤ 1000) (d : Nat) : ∀ i (s : Bool), i + d = l.length → (∃ j, i ≤ j ∧ j < l.length ∧ 0 < l.getD j 0 ∧ mb (code l j) (ln l j) <+: row) → Ev (fun k => gladstoneref09_Decode.l0 k l row (codesL l) s (i : Int)) (sdm l 16 1 0 row) := by
  have hn := (chk_len h).1
  induction d with
  | zero => intro i s hi ⟨j, h1, h2, _⟩; omega
  | succ d ih =>
    intro i s hi hj
    have hil : i < l.length := by omega
    by_cases h0 : 0 < l.getD i 0
    · by_cases hp : mb (code l i) (ln l i) <+: row
      · refine dec_code h row hr hil h0 ?_
        simp only [decide_eq_true hp, if_true]
        obtain ⟨t, ht⟩ := hp
        rw [← ht, sdm_code h hil h0]
        exact Ev.now _
      · refine dec_code h row hr hil h0 ?_
        simp only [decide_eq_false hp]
        obtain ⟨j, h1, h2, h3, h4⟩ := hj
        have hji : i + 1 ≤ j := by
          rcases Nat.lt_or_ge i j with hlt | hge
          · exact hlt
          · have : i = j := by omega
            subst this
            exact absurd h4 hp
        exact ih (i + 1) _ (by omega) ⟨j, hji, h2, h3, h4⟩
    · have hz : l.getD i 0 = 0 := by have := (ln16 (chk_len h).2 hil).2; omega
      refine dec_zero hn row hil hz ?_
      obtain ⟨j, h1, h2, h3, h4⟩ := hj
      have hji : i + 1 ≤ j := by
        rcases Nat.lt_or_ge i j with hlt | hge
        · exact hlt
        · have : i = j := by omega
          subst this
          omega
      exact ih (i + 1) _ (by omega) ⟨j, hji, h2, h3, h4⟩
/-- No code is met: whether one was begun. -/
theorem dec_miss {l : List Int} (h : chk l 16 = 0) (row : List Bool) (hr : row.length ≤ 1000) (hno : ∀ i, i < l.length → 0 < l.getD i 0 → ¬ mb (code l i) (ln l i) <+: row) (d : Nat) : ∀ i (s : Bool) (e : Int), i + d = l.length →
    ((s = true ∨ ∃ j, i ≤ j ∧ j < l.length ∧ 0 < l.getD j 0 ∧ row <+: mb (code l j) (ln l j)) → e = 3) → ((¬ (s = true ∨ ∃ j, i ≤ j ∧ j < l.length ∧ 0 < l.getD j 0 ∧ row <+: mb (code l j) (ln l j))) → e = 4) → Ev (fun k => gladstoneref09_Decode.l0 k l row (codesL l) s (i : Int)) (0, 0, e) := by
  have hn := (chk_len h).1
  induction d with
  | zero =>
    intro i s e hi h3 h4
    cases s with
    | true =>
      rw [h3 (.inl rfl)]
      refine Ev.step (f := fun _ => some (0, 0, 3)) (fun k => ?_) (Ev.now _)
      simp only [gladstoneref09_Decode.l0]
      rw [if_neg (by omega)]; simp
    | false =>
      rw [h4 (by rintro (h | ⟨j, h1, h2, _⟩) <;> first | exact absurd h (by decide) | omega)]
      refine Ev.step (f := fun _ => some (0, 0, 4)) (fun k => ?_) (Ev.now _)
      simp only [gladstoneref09_Decode.l0]
      rw [if_neg (by omega)]; simp
  | succ d ih =>
    intro i s e hi h3 h4
    have hil : i < l.length := by omega
    by_cases h0 : 0 < l.getD i 0
    · refine dec_code h row hr hil h0 ?_
      simp only [decide_eq_false (hno i hil h0)]
      have key : ((s || decide (row <+: mb (code l i) (ln l i))) = true ∨ ∃ j, i + 1 ≤ j ∧ j < l.length ∧ 0 < l.getD j 0 ∧ row <+: mb (code l j) (ln l j)) ↔ (s = true ∨ ∃ j, i ≤ j ∧ j < l.length ∧ 0 < l.getD j 0 ∧ row <+: mb (code l j) (ln l j)) := by
        rw [Bool.or_eq_true, decide_eq_true_iff]
        constructor
        · rintro ((hs | hp) | ⟨j, h1, h2⟩)
          · exact .inl hs
          · exact .inr ⟨i, Nat.le_refl _, hil, h0, hp⟩
          · exact .inr ⟨j, by omega, h2⟩
        · rintro (hs | ⟨j, h1, h2⟩)
          · exact .inl (.inl hs)
          · by_cases hij : i = j
            · subst hij; exact .inl (.inr h2.2.2)
            · exact .inr ⟨j, by omega, h2⟩
      exact ih (i + 1) _ e (by omega) (fun hk => h3 (key.1 hk)) (fun hk => h4 (fun hh => hk (key.2 hh)))
    · have hz : l.getD i 0 = 0 := by have := (ln16 (chk_len h).2 hil).2; omega
      refine dec_zero hn row hil hz ?_
      have key : (s = true ∨ ∃ j, i + 1 ≤ j ∧ j < l.length ∧ 0 < l.getD j 0 ∧ row <+: mb (code l j) (ln l j)) ↔ (s = true ∨ ∃ j, i ≤ j ∧ j < l.length ∧ 0 < l.getD j 0 ∧ row <+: mb (code l j) (ln l j)) := by
        constructor
        · rintro (hs | ⟨j, h1, h2⟩)
          · exact .inl hs
          · exact .inr ⟨j, by omega, h2⟩
        · rintro (hs | ⟨j, h1, h2⟩)
          · exact .inl hs
          · by_cases hij : i = j
            · subst hij; omega
            · exact .inr ⟨j, by omega, h2⟩
      exact ih (i + 1) _ e (by omega) (fun hk => h3 (key.1 hk)) (fun hk => h4 (fun hh => hk (key.2 hh)))
def decP (l : List Int) (row : List Bool) : Int × Int × Int := if chk l 16 = 0 then sdm l 16 1 0 row else (0, 0, chk l 16)
theorem rdecode_ev (l : List Int) (hl : l.length ≤ 17592186044416) (row : List Bool) (hr : row.length ≤ 1000) : Ev (fun k => gladstoneref09_Decode.f k l row) (decP l row) := by
  refine Ev.bind (rcodes_ev l hl) ?_
  unfold decP codesP
  by_cases h : chk l 16 = 0
  · rw [if_pos h, if_pos h]
    refine Ev.ifp rfl ?_
    show Ev (fun k => gladstoneref09_Decode.l0 k l row (codesL l) false ((0 : Nat) : Int)) _
    by_cases hx : ∃ j, 0 ≤ j ∧ j < l.length ∧ 0 < l.getD j 0 ∧ mb (code l j) (ln l j) <+: row
    · exact dec_hit h row hr l.length 0 false (by omega) hx
    · have hno : ∀ i, i < l.length → 0 < l.getD i 0 → ¬ mb (code l i) (ln l i) <+: row := fun i h1 h2 h3 => hx ⟨i, Nat.zero_le _, h1, h2, h3⟩
      rcases sdm_miss h row hno 16 0 0 row (by omega) (by rw [mb]; rfl) (by decide) (by simp [F, cn_zero]) (fun h => by omega) with ⟨e, j, h1, h2, h3⟩ | ⟨e, h3⟩
      · rw [e]
        exact dec_miss h row hr hno l.length 0 false 3 (by omega) (fun _ => rfl) (fun hk => absurd (.inr ⟨j, Nat.zero_le _, h1, h2, h3⟩) hk)
      · rw [e]
        refine dec_miss h row hr hno l.length 0 false 4 (by omega) (fun hk => ?_) (fun _ => rfl)
        rcases hk with hk | ⟨j, _, h1, h2, h4⟩
        · exact absurd hk (by decide)
        · exact absurd h4 (h3 j h1 h2)
  · rw [if_neg h, if_neg h]
    exact Ev.ifn h (Ev.now _)
end Go.Proofs.Ytpmllmllabjopaa.Pure
