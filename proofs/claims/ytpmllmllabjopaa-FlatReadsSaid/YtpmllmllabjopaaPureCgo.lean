/- Codes of lengths, plainly. -/
import Derived.Test.YtpmllmllabjopaaHCn4
import Derived.Test.YtpmllmllabjopaaBts
set_option linter.unusedVariables false
set_option linter.unusedSimpArgs false
set_option linter.unusedSectionVars false
namespace Go.Proofs.Ytpmllmllabjopaa.Pure
open Go.RowKit Go.Proofs.YtpmllmllabjopaaW.PrintWords Go.Proofs.YtpmllmllabjopaaW.PrintMore Go.Proofs.Ytpmllmllabjopaa.P Go.Proofs.Ytpmllmllabjopaa.Com Go.Proofs.Ytpmllmllabjopaa.Cn Go.Proofs.Ytpmllmllabjopaa.Hd
attribute [local irreducible] ord pos

theorem ev_get {α : Type} {f : Nat → Option α} {r : α} (h : Ev f r) : ∃ k, f k = some r := by
  obtain ⟨k, hk⟩ := h
  exact ⟨k, hk k (Nat.le_refl _)⟩
theorem and_one (x : Int) : Go.bits .and .i64 x 1 = x % 2 := by
  have e : (BitVec.ofInt 64 x &&& BitVec.ofInt 64 1).toNat = (x % 2).toNat := by
    rw [BitVec.toNat_and, BitVec.toNat_ofInt, BitVec.toNat_ofInt]
    have e1 : ((1 : Int) % ((2 ^ 64 : Nat) : Int)).toNat = 1 := by decide
    rw [e1, Nat.and_one_is_mod]
    have e2 : ((2 ^ 64 : Nat) : Int) = 18446744073709551616 := by decide
    rw [e2]
    omega
  unfold Go.bits
  show IntKind.i64.wrap ((BitVec.ofInt 64 x &&& BitVec.ofInt 64 1).toNat : Int) = x % 2
  rw [e, IntKind.wrap_i64]
  omega
/-! ### codes -/
def codesP (l : List Int) : List Int × Int := if chk l 16 = 0 then (codesL l, 0) else ([], chk l 16)
theorem codes_ev (l : List Int) (hl : l.length ≤ 17592186044416) : Ev (fun k => canon_Codes.f k l) (codesP l) := by
  refine Ev.bind (chk_ev l hl 16) ?_
  unfold codesP
  by_cases h : chk l 16 = 0
  · rw [if_pos h, if_pos h]; exact Ev.now _
  · rw [if_neg h, if_neg h]; exact Ev.now _
theorem rcodes_ev (l : List Int) (hl : l.length ≤ 17592186044416) : Ev (fun k => gladstoneref08_Codes.f k l) (codesP l) := by
  refine Ev.bind (rchk_ev l hl 16) ?_
  unfold codesP
  by_cases h : chk l 16 = 0
  · rw [if_pos h, if_pos h]; exact Ev.now _
  · rw [if_neg h, if_neg h]; exact Ev.now _
theorem chk_len {l : List Int} (h : chk l 16 = 0) : l.length ≤ 1024 ∧ ∀ x ∈ l, 0 ≤ x ∧ x ≤ 16 := by
  unfold chk at h
  rw [if_neg (by decide)] at h
  by_cases h1 : 1024 < l.length
  · rw [if_pos h1] at h; exact absurd h (by decide)
  · rw [if_neg h1] at h
    by_cases ha : l.all (fun x => decide (0 ≤ x ∧ x ≤ 16)) = false
    · rw [if_pos ha] at h; exact absurd h (by decide)
    · exact ⟨by omega, fun x hx => of_decide_eq_true (List.all_eq_true.1 (Bool.not_eq_false _ ▸ ha : l.all (fun x => decide (0 ≤ x ∧ x ≤ 16)) = true) x hx)⟩
theorem codesP_len (l : List Int) : (codesP l).1.length ≤ l.length := by
  unfold codesP
  split
  · exact Nat.le_of_eq (tabn_length _ _)
  · exact Nat.zero_le _

attribute [local irreducible] code
/-- What the codes of the lengths below one sum to. -/
def K (c : Nat → Nat) : Nat → Nat
  | 0 => 0
  | x + 1 => K c x + c x * 2 ^ (16 - x)
theorem K_add (c d : Nat → Nat) (n : Nat) : K (fun j => c j + d j) n = K c n + K d n := by
  induction n with
  | zero => rfl
  | succ n ih => simp only [K]; rw [ih, Nat.add_mul]; omega
theorem K_congr {c d : Nat → Nat} (h : ∀ j, c j = d j) (n : Nat) : K c n = K d n := by
  induction n with
  | zero => rfl
  | succ n ih => simp only [K]; rw [ih, h]
theorem K_one : ∀ x : Nat, x ≤ 16 → K (fun j => if j ≠ 0 ∧ x = j then 1 else 0) 17 = if x = 0 then 0 else 2 ^ (16 - x) := by decide
theorem K_mono (c : Nat → Nat) {a b : Nat} (h : a ≤ b) : K c a ≤ K c b := by
  induction b with
  | zero => rw [show a = 0 by omega]; exact Nat.le_refl _
  | succ b ih =>
    by_cases e : a = b + 1
    · rw [e]; exact Nat.le_refl _
    · have := ih (by omega)
      simp only [K]; omega
theorem cn_cons (x : Int) (t : List Int) (hx : 0 ≤ x) (j : Nat) : cn (x :: t) j = (if j ≠ 0 ∧ x.toNat = j then 1 else 0) + cn t j := by
  have h := cn_append [x] t j
  rw [List.singleton_append] at h
  rw [h]
  congr 1
  unfold cn
  by_cases hj : j = 0
  · simp [hj]
  · rw [if_neg hj, List.countP_cons, List.countP_nil]
    by_cases e : x.toNat = j
    · have e1 : (x == (j : Int)) = true := by rw [beq_iff_eq]; omega
      rw [e1, if_pos rfl, if_pos ⟨hj, e⟩]
    · have e1 : (x == (j : Int)) = false := by rw [beq_eq_false_iff_ne]; omega
      rw [e1, if_neg (by decide), if_neg (fun h' => e h'.2)]
theorem Su_K (l : List Int) (hl : ∀ x ∈ l, 0 ≤ x ∧ x ≤ 16) : Su 16 l = (K (cn l) 17 : Int) := by
  induction l with
  | nil =>
    have : K (cn []) 17 = 0 := by decide
    rw [this]; rfl
  | cons x t ih =>
    have hx := hl x (List.mem_cons_self ..)
    rw [Su_cons, ih (fun y hy => hl y (List.mem_cons_of_mem _ hy)), K_congr (cn_cons x t hx.1) 17, K_add, K_one x.toNat (by omega)]
    unfold wt
    by_cases h : x.toNat = 0
    · rw [if_neg (by omega), if_pos h]; simp
    · rw [if_pos (by omega), if_neg h]
      have e : (16 - x).toNat = 16 - x.toNat := by omega
      rw [e]
      simp
theorem F_K (c : Nat → Nat) (x : Nat) (hx : x ≤ 16) : F c x * 2 ^ (16 - x) = K c x := by
  induction x with
  | zero => simp [F, K]
  | succ x ih =>
    have e : 16 - x = (16 - (x + 1)) + 1 := by omega
    have h := ih (by omega)
    simp only [F, K]
    rw [← h, e, Nat.pow_succ]
    generalize 2 ^ (16 - (x + 1)) = p
    rw [Nat.mul_assoc, Nat.mul_comm 2 p, Nat.add_mul, Nat.add_comm]
theorem kraft16 {l : List Int} (h : chk l 16 = 0) : Su 16 l ≤ 65536 := by
  have hb := (chk_len h).2
  unfold chk at h
  rw [if_neg (by decide)] at h
  split at h
  · exact absurd h (by decide)
  · split at h
    · exact absurd h (by decide)
    · split at h
      · exact absurd h (by decide)
      · split at h
        · rename_i h1
          obtain ⟨x, hx0, hxm, hx⟩ := one_used l h1
          rw [hx 16]
          have := wt_bd 16 x (by decide)
          omega
        · split at h
          · rename_i h1
            rw [h1]; decide
          · exact absurd h (by decide)
theorem F_fits {l : List Int} (h : chk l 16 = 0) (x : Nat) (hx : x ≤ 16) : F (cn l) x + cn l x ≤ 2 ^ x := by
  have h1 := Su_K l (chk_len h).2
  have h2 := kraft16 h
  have h3 := K_mono (cn l) (show x + 1 ≤ 17 by omega)
  have h3' : K (cn l) (x + 1) = K (cn l) x + cn l x * 2 ^ (16 - x) := rfl
  rw [h3', ← F_K (cn l) x hx, ← Nat.add_mul] at h3
  have e : 65536 = 2 ^ x * 2 ^ (16 - x) := by rw [← Nat.pow_add, Nat.add_sub_cancel' hx]
  have h4 : (F (cn l) x + cn l x) * 2 ^ (16 - x) ≤ 2 ^ x * 2 ^ (16 - x) := by rw [← e]; omega
  exact Nat.le_of_mul_le_mul_right h4 (Nat.two_pow_pos _)
theorem F_ge (c : Nat → Nat) {x y : Nat} (h : x < y) : (F c x + c x) * 2 ^ (y - x) ≤ F c y := by
  induction y with
  | zero => omega
  | succ y ih =>
    simp only [F]
    by_cases e : x = y
    · subst e
      rw [Nat.add_sub_cancel_left, Nat.pow_one, Nat.add_comm (F c x)]
      exact Nat.le_refl _
    · have h1 := ih (by omega)
      have e2 : y + 1 - x = (y - x) + 1 := by omega
      rw [e2, Nat.pow_succ, ← Nat.mul_assoc]
      exact Nat.mul_le_mul_right 2 (Nat.le_trans h1 (Nat.le_add_left _ _))
theorem ln16 {l : List Int} (hl : ∀ x ∈ l, 0 ≤ x ∧ x ≤ 16) {i : Nat} (hi : i < l.length) : ln l i ≤ 16 ∧ l.getD i 0 = (ln l i : Int) := by
  have := hl _ (List.getElem_mem hi)
  have e : l.getD i 0 = l[i] := by rw [List.getD_eq_getElem?_getD, List.getElem?_eq_getElem hi]; rfl
  unfold ln
  rw [e]
  omega
theorem code_fits {l : List Int} (h : chk l 16 = 0) {i : Nat} (hi : i < l.length) : code l i < 2 ^ ln l i := by
  have hl := (chk_len h).2
  by_cases h0 : 0 < l.getD i 0
  · rw [code_pos h0]
    have h1 := rank_lt hi h0
    have h2 := F_fits h (ln l i) (ln16 hl hi).1
    omega
  · have : code l i = 0 := by unfold code; exact if_pos (by unfold ln; omega)
    rw [this]
    exact Nat.two_pow_pos _
theorem code_free {l : List Int} (h : chk l 16 = 0) {i k : Nat} (hi : i < l.length) (hk : k < l.length) (hik : i ≠ k) (h0 : 0 < l.getD i 0) (hle : ln l i ≤ ln l k) : code l k / 2 ^ (ln l k - ln l i) ≠ code l i := by
  have hl := (chk_len h).2
  have hk0 : 0 < l.getD k 0 := by have := (ln16 hl hk).2; have := (ln16 hl hi).2; omega
  have r1 := rank_lt hi h0
  have r2 := rank_lt hk hk0
  by_cases e : ln l i = ln l k
  · rw [e, Nat.sub_self, Nat.pow_zero, Nat.div_one, code_pos h0, code_pos hk0, e]
    intro e2
    have o1 := (od_pos hl hi h0).2
    have o2 := (od_pos hl hk hk0).2
    have ep : pos l i = pos l k := by unfold pos; rw [e]; omega
    rw [ep, o2] at o1
    exact hik o1.symm
  · have h1 := F_ge (cn l) (show ln l i < ln l k by omega)
    have h2 : F (cn l) (ln l i) + cn l (ln l i) ≤ code l k / 2 ^ (ln l k - ln l i) := by
      rw [Nat.le_div_iff_mul_le (Nat.two_pow_pos _), code_pos hk0]
      omega
    rw [code_pos h0]
    omega
theorem codes_rd {l : List Int} {i : Nat} (hi : i < l.length) : rd (codesL l) (i : Int) = (code l i : Int) := rd_some (tabn_get hi)
theorem l_rd {l : List Int} (hl : ∀ x ∈ l, 0 ≤ x ∧ x ≤ 16) {i : Nat} (hi : i < l.length) : rd l (i : Int) = (ln l i : Int) := by rw [rd_nat]; exact (ln16 hl hi).2
theorem codes_len (l : List Int) : (codesL l).length = l.length := tabn_length _ _
theorem shr_nat64 (x s : Nat) (hs : s ≤ 64) : shr .i64 (x : Int) (s : Int) = ((x / 2 ^ s : Nat) : Int) := by
  unfold shr
  have e : min ((s : Int)).toNat IntKind.i64.bits = s := by simp [IntKind.bits]; omega
  rw [e]; simp
end Go.Proofs.Ytpmllmllabjopaa.Pure
