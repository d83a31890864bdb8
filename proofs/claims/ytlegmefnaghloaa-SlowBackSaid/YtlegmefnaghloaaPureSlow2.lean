/- The plain laws of chapter 9 (slow), second part: what the reference's Encode and slow.Encode compute. -/
import Derived.Test.YtlegmefnaghloaaPureSlow
set_option linter.unusedVariables false
set_option linter.unusedSimpArgs false
set_option linter.unusedSectionVars false
namespace Go.Proofs.Ytlegmefnaghloaa.Pure
open Go.RowKit Go.Proofs.YtlegmefnaghloaaW.PrintWords Go.Proofs.YtlegmefnaghloaaW.PrintMore Go.Proofs.Ytlegmefnaghloaa.P Go.Proofs.Ytlegmefnaghloaa.Com Go.Proofs.Ytlegmefnaghloaa.Cn Go.Proofs.Ytlegmefnaghloaa.Hd
attribute [local irreducible] ord pos code
/-- Symbols' bits, behind others; or that one has no code. -/
def encR (l : List Int) : List Bool → List Int → List Bool × Int
  | acc, [] => (acc, 0)
  | acc, x :: t => if x < 0 ∨ (l.length : Int) ≤ x ∨ l.getD x.toNat 0 = 0 then ([], 7) else encR l (acc ++ mb (code l x.toNat) (ln l x.toNat)) t
theorem drop_at (l : List Int) (i : Nat) (h : i < l.length) : l.drop i = rd l (i : Int) :: l.drop (i + 1) := by
  rw [rd_nat, List.drop_eq_getElem_cons h, List.getD_eq_getElem?_getD, List.getElem?_eq_getElem h]; rfl
theorem renc_l0 {l : List Int} (hc : chk l 16 = 0) (syms : List Int) (hs : syms.length ≤ 1000) (d : Nat) : ∀ i (acc : List Bool), i + d = syms.length → acc.length ≤ 16 * i → Ev (fun k => gladstoneref09_Encode.l0 k l syms (codesL l) acc (i : Int)) (encR l acc (syms.drop i)) := by
  have hl := (chk_len hc).2
  induction d with
  | zero =>
    intro i acc hi _
    rw [List.drop_eq_nil_of_le (by omega), encR]
    refine Ev.step (f := fun _ => some (acc, 0)) (fun k => ?_) (Ev.now _)
    simp only [gladstoneref09_Encode.l0]
    rw [if_neg (by omega)]
  | succ d ih =>
    intro i acc hi ha
    have hil : i < syms.length := by omega
    have ew : wrap64 ((i : Int) + 1) = ((i + 1 : Nat) : Int) := by rw [w64 (by omega) (by omega)]; omega
    rw [drop_at syms i hil, encR]
    obtain ⟨x, hx⟩ : ∃ x, rd syms (i : Int) = x := ⟨_, rfl⟩
    rw [hx]
    by_cases hb : x < 0 ∨ (l.length : Int) ≤ x ∨ l.getD x.toNat 0 = 0
    · rw [if_pos hb]
      refine Ev.step (f := fun _ => some ([], 7)) (fun k => ?_) (Ev.now _)
      simp only [gladstoneref09_Encode.l0]
      rw [if_pos (by omega), if_pos (by omega), hx]
      by_cases h1 : x < 0
      · rw [if_pos h1]
      · rw [if_neg h1]
        by_cases h2 : x ≥ (l.length : Int)
        · rw [if_pos h2]
        · rw [if_neg h2, if_pos (by omega), if_pos (by omega)]
          have h3 : rd l x = 0 := by
            rcases hb with h | h | h
            · exact absurd h h1
            · exact absurd h h2
            · rw [show x = ((x.toNat : Nat) : Int) by omega, rd_nat]; exact h
          rw [if_pos h3]
    · rw [if_neg hb]
      obtain ⟨y, rfl⟩ : ∃ y : Nat, x = y := ⟨x.toNat, by omega⟩
      rw [Int.toNat_natCast] at hb ⊢
      have hy : y < l.length := by omega
      have h16 := (ln16 hl hy)
      refine Ev.step (f := fun k => (gladstoneref09_bits.f k (code l y : Int) (ln l y : Int)).bind fun t205 => (if acc.length + t205.length < 140737488355328 then (gladstoneref09_Encode.l0 k l syms (codesL l) (acc ++ t205) ((i + 1 : Nat) : Int)) else (none))) (fun k => ?_) ?_
      · simp only [gladstoneref09_Encode.l0]
        rw [if_pos (by omega), if_pos (by omega), hx, if_neg (by omega), if_neg (by omega), if_pos (by omega), if_pos (by omega), l_rd hl hy, if_neg (by omega), codes_len, if_pos (by omega), codes_rd hy, ew]
      · refine Ev.bind (bits_ev _ _ h16.1) ?_
        rw [mb_length]
        refine Ev.ifp (by omega) ?_
        exact ih (i + 1) _ (by omega) (by rw [List.length_append, mb_length]; omega)
theorem senc_l1 {l : List Int} {y : Nat} (hy : y < l.length) (syms : List Int) (i : Int) (R : List Bool × Int) (m : Nat) (hm : m ≤ 16) : ∀ acc : List Bool, acc.length + m ≤ 1000000 →
    Ev (fun k => slow_Encode.l0 k l (codesL l) (acc ++ mb (code l y) m) syms (syms.length : Int) (wrap64 (i + 1))) R → Ev (fun k => slow_Encode.l1 k l (codesL l) acc (y : Int) ((m : Int) - 1) syms (syms.length : Int) i) R := by
  induction m with
  | zero =>
    intro acc _ h
    rw [mb, List.append_nil] at h
    refine Ev.step (fun k => ?_) h
    simp only [slow_Encode.l1]
    rw [if_neg (by omega)]
  | succ m ih =>
    intro acc ha h
    refine Ev.step (fun k => ?_) (ih (by omega) (acc ++ [code l y / 2 ^ m % 2 == 1]) (by rw [List.length_append, List.length_singleton]; omega) (by rw [List.append_assoc]; exact h))
    simp only [slow_Encode.l1]
    have e2 : wrap64 (((m + 1 : Nat) : Int) - 1 - 1) = (m : Int) - 1 := by rw [w64 (by omega) (by omega)]; omega
    have e1 : (((m + 1 : Nat) : Int) - 1) = (m : Int) := by omega
    rw [e2, e1, if_pos (by omega), if_pos (by omega), codes_len, if_pos (by omega), if_pos (by omega), if_pos (by omega), codes_rd hy, shr_nat64 _ _ (by omega), and_one]
    have e3 : ((((code l y / 2 ^ m : Nat) : Int) % 2) == 1) = (code l y / 2 ^ m % 2 == 1) := by
      by_cases h : code l y / 2 ^ m % 2 = 1
      · rw [show (((code l y / 2 ^ m : Nat) : Int) % 2) = 1 by omega, h]; rfl
      · have h0 : code l y / 2 ^ m % 2 = 0 := by omega
        rw [show (((code l y / 2 ^ m : Nat) : Int) % 2) = 0 by omega, h0]; rfl
    rw [e3]
theorem senc_l0 {l : List Int} (hc : chk l 16 = 0) (syms : List Int) (hs : syms.length ≤ 1000) (d : Nat) : ∀ i (acc : List Bool), i + d = syms.length → acc.length ≤ 16 * i → Ev (fun k => slow_Encode.l0 k l (codesL l) acc syms (syms.length : Int) (i : Int)) (encR l acc (syms.drop i)) := by
  have hl := (chk_len hc).2
  induction d with
  | zero =>
    intro i acc hi _
    rw [List.drop_eq_nil_of_le (by omega), encR]
    refine Ev.step (f := fun _ => some (acc, 0)) (fun k => ?_) (Ev.now _)
    simp only [slow_Encode.l0]
    rw [if_neg (by omega)]
  | succ d ih =>
    intro i acc hi ha
    have hil : i < syms.length := by omega
    have ew : wrap64 ((i : Int) + 1) = ((i + 1 : Nat) : Int) := by rw [w64 (by omega) (by omega)]; omega
    rw [drop_at syms i hil, encR]
    obtain ⟨x, hx⟩ : ∃ x, rd syms (i : Int) = x := ⟨_, rfl⟩
    rw [hx]
    have bad : Ev (fun k => slow_Encode.j1 k l (codesL l) acc x syms (syms.length : Int) (i : Int) true) ([], 7) := by
      refine Ev.step (f := fun _ => some ([], 7)) (fun k => ?_) (Ev.now _)
      simp only [slow_Encode.j1]
      simp
    by_cases h1 : x < 0
    · rw [if_pos (.inl h1)]
      refine Ev.step (fun k => ?_) bad
      simp only [slow_Encode.l0]
      rw [if_pos (by omega), if_pos (by omega), if_pos (by omega), hx, if_pos h1]
    · by_cases h2 : x ≥ (l.length : Int)
      · rw [if_pos (.inr (.inl h2))]
        refine Ev.step (fun k => ?_) bad
        simp only [slow_Encode.l0]
        rw [if_pos (by omega), if_pos (by omega), if_pos (by omega), hx, if_neg h1, if_pos h2]
      · obtain ⟨y, rfl⟩ : ∃ y : Nat, x = y := ⟨x.toNat, by omega⟩
        have hy : y < l.length := by omega
        have h16 := (ln16 hl hy)
        rw [Int.toNat_natCast]
        refine Ev.step (f := fun k => slow_Encode.j1 k l (codesL l) acc (y : Int) syms (syms.length : Int) (i : Int) ((ln l y : Int) == 0)) (fun k => ?_) ?_
        · simp only [slow_Encode.l0]
          rw [if_pos (by omega), if_pos (by omega), if_pos (by omega), hx, if_neg h1, if_neg h2, if_pos (by omega), if_pos (by omega), l_rd hl hy]
        · by_cases h3 : l.getD y 0 = 0
          · rw [if_pos (.inr (.inr h3))]
            have e : ((ln l y : Int) == 0) = true := by rw [beq_iff_eq]; omega
            rw [e]
            exact bad
          · rw [if_neg (by omega)]
            have e : ((ln l y : Int) == 0) = false := by rw [beq_eq_false_iff_ne]; omega
            rw [e]
            have h4 := senc_l1 hy syms (i : Int) _ (ln l y) h16.1 acc (by omega) (by rw [ew]; exact ih (i + 1) _ (by omega) (by rw [List.length_append, mb_length]; omega))
            refine Ev.step (fun k => ?_) h4
            simp only [slow_Encode.j1]
            rw [if_neg (by decide), if_pos (by omega), if_pos (by omega), l_rd hl hy, w64 (by omega) (by omega)]
def encP (l syms : List Int) : List Bool × Int := if chk l 16 = 0 then encR l [] syms else ([], chk l 16)
theorem encode_ev (l : List Int) (hl : l.length ≤ 17592186044416) (syms : List Int) (hs : syms.length ≤ 1000) : Ev (fun k => slow_Encode.f k l syms) (encP l syms) := by
  refine Ev.bind (codes_ev l hl) ?_
  unfold encP codesP
  by_cases h : chk l 16 = 0
  · rw [if_pos h, if_pos h]
    exact Ev.ifp rfl (senc_l0 h syms hs syms.length 0 [] (by omega) (by rw [List.length_nil]; omega))
  · rw [if_neg h, if_neg h]
    exact Ev.ifn h (Ev.now _)
theorem rencode_ev (l : List Int) (hl : l.length ≤ 17592186044416) (syms : List Int) (hs : syms.length ≤ 1000) : Ev (fun k => gladstoneref09_Encode.f k l syms) (encP l syms) := by
  refine Ev.bind (rcodes_ev l hl) ?_
  unfold encP codesP
  by_cases h : chk l 16 = 0
  · rw [if_pos h, if_pos h]
    exact Ev.ifp rfl (renc_l0 h syms hs syms.length 0 [] (by omega) (by rw [List.length_nil]; omega))
  · rw [if_neg h, if_neg h]
    exact Ev.ifn h (Ev.now _)
end Go.Proofs.Ytlegmefnaghloaa.Pure
