/- The plain law of chapter 8: no code begins another. -/
import Derived.Test.YtbeoacjooaioaaaPureCanon
set_option linter.unusedVariables false
set_option linter.unusedSimpArgs false
set_option linter.unusedSectionVars false
namespace Go.Proofs.Ytbeoacjooaioaaa.Pure
open Go.RowKit Go.Proofs.YtbeoacjooaioaaaW.PrintWords Go.Proofs.YtbeoacjooaioaaaW.PrintMore Go.Proofs.Ytbeoacjooaioaaa.P Go.Proofs.Ytbeoacjooaioaaa.Com Go.Proofs.Ytbeoacjooaioaaa.Cn Go.Proofs.Ytbeoacjooaioaaa.Hd
attribute [local irreducible] ord pos code
/-- What the codes of the lengths below one sum to. -/
def K (c : Nat → Nat) : Nat → Nat
  | 0 => 0
  | x + 1 => K c x + c x * 2 ^ (16 - x)
theorem K_add (c d : Nat → Nat) (n : Nat) : K (fun j => c j + d j) n = K c n + K d n := by
  induction n with
  | zero => rfl
  | succ n ih => simp only [K]; rw [ih, Nat.add_mul]; omega
theorem K_congr {c d : Nat → Nat} (h : ∀ j, c j = d j) (n : Nat) : K c n = K d n := by
  induction n with
  | zero => rfl
  | succ n ih => simp only [K]; rw [ih, h]
theorem K_one : ∀ x : Nat, x ≤ 16 → K (fun j => if j ≠ 0 ∧ x = j then 1 else 0) 17 = if x = 0 then 0 else 2 ^ (16 - x) := by decide
theorem K_mono (c : Nat → Nat) {a b : Nat} (h : a ≤ b) : K c a ≤ K c b := by
  induction b with
  | zero => rw [show a = 0 by omega]; exact Nat.le_refl _
  | succ b ih =>
    by_cases e : a = b + 1
    · rw [e]; exact Nat.le_refl _
    · have := ih (by omega)
      simp only [K]; omega
theorem cn_cons (x : Int) (t : List Int) (hx : 0 ≤ x) (j : Nat) : cn (x :: t) j = (if j ≠ 0 ∧ x.toNat = j then 1 else 0) + cn t j := by
  have h := cn_append [x] t j
  rw [List.singleton_append] at h
  rw [h]
  congr 1
  unfold cn
  by_cases hj : j = 0
  · simp [hj]
  · rw [if_neg hj, List.countP_cons, List.countP_nil]
    by_cases e : x.toNat = j
    · have e1 : (x == (j : Int)) = true := by rw [beq_iff_eq]; omega
      rw [e1, if_pos rfl, if_pos ⟨hj, e⟩]
    · have e1 : (x == (j : Int)) = false := by rw [beq_eq_false_iff_ne]; omega
      rw [e1, if_neg (by decide), if_neg (fun h' => e h'.2)]
theorem Su_K (l : List Int) (hl : ∀ x ∈ l, 0 ≤ x ∧ x ≤ 16) : Su 16 l = (K (cn l) 17 : Int) := by
  induction l with
  | nil =>
    have : K (cn []) 17 = 0 := by decide
    rw [this]; rfl
  | cons x t ih =>
    have hx := hl x (List.mem_cons_self ..)
    rw [Su_cons, ih (fun y hy => hl y (List.mem_cons_of_mem _ hy)), K_congr (cn_cons x t hx.1) 17, K_add, K_one x.toNat (by omega)]
    unfold wt
    by_cases h : x.toNat = 0
    · rw [if_neg (by omega), if_pos h]; simp
    · rw [if_pos (by omega), if_neg h]
      have e : (16 - x).toNat = 16 - x.toNat := by omega
      rw [e]
      simp
theorem F_K (c : Nat → Nat) (x : Nat) (hx : x ≤ 16) : F c x * 2 ^ (16 - x) = K c x := by
  induction x with
  | zero => simp [F, K]
  | succ x ih =>
    have e : 16 - x = (16 - (x + 1)) + 1 := by omega
    have h := ih (by omega)
    simp only [F, K]
    rw [← h, e, Nat.pow_succ]
    generalize 2 ^ (16 - (x + 1)) = p
    rw [Nat.mul_assoc, Nat.mul_comm 2 p, Nat.add_mul, Nat.add_comm]
theorem kraft16 {l : List Int} (h : chk l 16 = 0) : Su 16 l ≤ 65536 := by
  have hb := (chk_len h).2
  unfold chk at h
  rw [if_neg (by decide)] at h
  split at h
  · exact absurd h (by decide)
  · split at h
    · exact absurd h (by decide)
    · split at h
      · exact absurd h (by decide)
      · split at h
        · rename_i h1
          obtain ⟨x, hx0, hxm, hx⟩ := one_used l h1
          rw [hx 16]
          have := wt_bd 16 x (by decide)
          omega
        · split at h
          · rename_i h1
            rw [h1]; decide
          · exact absurd h (by decide)
theorem F_fits {l : List Int} (h : chk l 16 = 0) (x : Nat) (hx : x ≤ 16) : F (cn l) x + cn l x ≤ 2 ^ x := by
  have h1 := Su_K l (chk_len h).2
  have h2 := kraft16 h
  have h3 := K_mono (cn l) (show x + 1 ≤ 17 by omega)
  have h3' : K (cn l) (x + 1) = K (cn l) x + cn l x * 2 ^ (16 - x) := rfl
  rw [h3', ← F_K (cn l) x hx, ← Nat.add_mul] at h3
  have e : 65536 = 2 ^ x * 2 ^ (16 - x) := by rw [← Nat.pow_add, Nat.add_sub_cancel' hx]
  have h4 : (F (cn l) x + cn l x) * 2 ^ (16 - x) ≤ 2 ^ x * 2 ^ (16 - x) := by rw [← e]; omega
  exact Nat.le_of_mul_le_mul_right h4 (Nat.two_pow_pos _)
theorem F_ge (c : Nat → Nat) {x y : Nat} (h : x < y) : (F c x + c x) * 2 ^ (y - x) ≤ F c y := by
  induction y with
  | zero => omega
  | succ y ih =>
    simp only [F]
    by_cases e : x = y
    · subst e
      rw [Nat.add_sub_cancel_left, Nat.pow_one, Nat.add_comm (F c x)]
      exact Nat.le_refl _
    · have h1 := ih (by omega)
      have e2 : y + 1 - x = (y - x) + 1 := by omega
      rw [e2, Nat.pow_succ, ← Nat.mul_assoc]
      exact Nat.mul_le_mul_right 2 (Nat.le_trans h1 (Nat.le_add_left _ _))
theorem ln16 {l : List Int} (hl : ∀ x ∈ l, 0 ≤ x ∧ x ≤ 16) {i : Nat} (hi : i < l.length) : ln l i ≤ 16 ∧ l.getD i 0 = (ln l i : Int) := by
  have := hl _ (List.getElem_mem hi)
  have e : l.getD i 0 = l[i] := by rw [List.getD_eq_getElem?_getD, List.getElem?_eq_getElem hi]; rfl
  unfold ln
  rw [e]
  omega
theorem code_fits {l : List Int} (h : chk l 16 = 0) {i : Nat} (hi : i < l.length) : code l i < 2 ^ ln l i := by
  have hl := (chk_len h).2
  by_cases h0 : 0 < l.getD i 0
  · rw [code_pos h0]
    have h1 := rank_lt hi h0
    have h2 := F_fits h (ln l i) (ln16 hl hi).1
    omega
  · have : code l i = 0 := by unfold code; exact if_pos (by unfold ln; omega)
    rw [this]
    exact Nat.two_pow_pos _
theorem code_free {l : List Int} (h : chk l 16 = 0) {i k : Nat} (hi : i < l.length) (hk : k < l.length) (hik : i ≠ k) (h0 : 0 < l.getD i 0) (hle : ln l i ≤ ln l k) : code l k / 2 ^ (ln l k - ln l i) ≠ code l i := by
  have hl := (chk_len h).2
  have hk0 : 0 < l.getD k 0 := by have := (ln16 hl hk).2; have := (ln16 hl hi).2; omega
  have r1 := rank_lt hi h0
  have r2 := rank_lt hk hk0
  by_cases e : ln l i = ln l k
  · rw [e, Nat.sub_self, Nat.pow_zero, Nat.div_one, code_pos h0, code_pos hk0, e]
    intro e2
    have o1 := (od_pos hl hi h0).2
    have o2 := (od_pos hl hk hk0).2
    have ep : pos l i = pos l k := by unfold pos; rw [e]; omega
    rw [ep, o2] at o1
    exact hik o1.symm
  · have h1 := F_ge (cn l) (show ln l i < ln l k by omega)
    have h2 : F (cn l) (ln l i) + cn l (ln l i) ≤ code l k / 2 ^ (ln l k - ln l i) := by
      rw [Nat.le_div_iff_mul_le (Nat.two_pow_pos _), code_pos hk0]
      omega
    rw [code_pos h0]
    omega
theorem codes_rd {l : List Int} {i : Nat} (hi : i < l.length) : rd (codesL l) (i : Int) = (code l i : Int) := rd_some (tabn_get hi)
theorem l_rd {l : List Int} (hl : ∀ x ∈ l, 0 ≤ x ∧ x ≤ 16) {i : Nat} (hi : i < l.length) : rd l (i : Int) = (ln l i : Int) := by rw [rd_nat]; exact (ln16 hl hi).2
theorem codes_len (l : List Int) : (codesL l).length = l.length := tabn_length _ _
theorem shr_nat64 (x s : Nat) (hs : s ≤ 64) : shr .i64 (x : Int) (s : Int) = ((x / 2 ^ s : Nat) : Int) := by
  unfold shr
  have e : min ((s : Int)).toNat IntKind.i64.bits = s := by simp [IntKind.bits]; omega
  rw [e]; simp
/-! ### the law -/
theorem free_l1 (l : List Int) (h : chk l 16 = 0) (i : Nat) (hi : i < l.length) (r : Bool) (h0 : Ev (fun k => gladstonelaw08_CanonFree.l0 k l (codesL l) ((i + 1 : Nat) : Int)) r) (d : Nat) :
    ∀ j, j + d = l.length → Ev (fun k => gladstonelaw08_CanonFree.l1 k l (codesL l) (i : Int) (j : Int)) r := by
  have hl := (chk_len h).2
  have hn := (chk_len h).1
  induction d with
  | zero =>
    intro j hj
    refine Ev.step (fun k => ?_) h0
    simp only [gladstonelaw08_CanonFree.l1]
    rw [if_neg (by omega), w64 (by omega) (by omega)]
    rfl
  | succ d ih =>
    intro j hj
    have hj2 : j < l.length := by omega
    refine Ev.step (fun k => ?_) (ih (j + 1) (by omega))
    have ew : wrap64 ((j : Int) + 1) = ((j + 1 : Nat) : Int) := by rw [w64 (by omega) (by omega)]; omega
    have hli := (ln16 hl hi).1
    have hlj := (ln16 hl hj2).1
    simp only [gladstonelaw08_CanonFree.l1]
    rw [if_pos (by omega), ew, l_rd hl hi, l_rd hl hj2, codes_rd hi, codes_rd hj2, codes_len]
    by_cases e1 : (i : Int) = (j : Int)
    · rw [if_pos e1]
    · rw [if_neg e1, if_pos (by omega), if_pos (by omega)]
      by_cases e2 : (ln l i : Int) > 0
      · rw [if_pos e2, if_pos (by omega)]
        by_cases e3 : (ln l j : Int) ≥ (ln l i : Int)
        · have es : IntKind.u64.wrap (wrap64 ((ln l j : Int) - (ln l i : Int))) = ((ln l j - ln l i : Nat) : Int) := by
            rw [w64 (by omega) (by omega), wu64 (by omega) (by omega)]; omega
          rw [if_pos e3, if_pos (by omega), es, if_pos (by omega), if_pos (by omega), shr_nat64 _ _ (by omega)]
          have hne := code_free h hi hj2 (by omega) (by rw [(ln16 hl hi).2]; omega) (by omega)
          rw [if_neg (fun e => hne (by omega))]
        · rw [if_neg e3]
      · rw [if_neg e2]
theorem free_l0 (l : List Int) (h : chk l 16 = 0) (d : Nat) : ∀ i, i + d = l.length → Ev (fun k => gladstonelaw08_CanonFree.l0 k l (codesL l) (i : Int)) true := by
  have hl := (chk_len h).2
  have hn := (chk_len h).1
  induction d with
  | zero =>
    intro i hi
    refine Ev.step (fun k => ?_) awake_ev'
    simp only [gladstonelaw08_CanonFree.l0]
    rw [if_neg (by omega)]
  | succ d ih =>
    intro i hi
    have hi2 : i < l.length := by omega
    have hli := (ln16 hl hi2).1
    have h1 := free_l1 l h i hi2 true (ih (i + 1) (by omega)) l.length 0 (by omega)
    refine Ev.step (f := fun k => gladstonelaw08_CanonFree.j1 k l (codesL l) (i : Int) false) (fun k => ?_) (Ev.step (fun k => ?_) h1)
    · have e0 : code l i / 2 ^ ln l i = 0 := Nat.div_eq_of_lt (code_fits h hi2)
      simp only [gladstonelaw08_CanonFree.l0]
      rw [if_pos (by omega), if_pos (by omega), codes_len, if_pos (by omega), codes_rd hi2, if_neg (by omega), l_rd hl hi2, wu64 (by omega) (by omega), if_pos (by omega), shr_nat64 _ _ (by omega), e0]
      rfl
    · simp only [gladstonelaw08_CanonFree.j1]
      rw [if_neg (by decide)]
      rfl
theorem CanonFree : gladstonelaw08_CanonFree.Pure := by
  intro l hm hl hw
  have h : Ev (fun k => gladstonelaw08_CanonFree.f k l) true := by
    unfold gladstonelaw08_CanonFree.f
    by_cases h1 : (l.length : Int) > 150
    · exact Ev.ifp h1 awake_ev'
    · refine Ev.ifn h1 ?_
      refine Ev.bind (codes_ev l (by omega)) ?_
      unfold codesP
      by_cases hc : chk l 16 = 0
      · rw [if_pos hc]
        refine Ev.ifp rfl (Ev.ifp (by rw [codes_len]) ?_)
        exact free_l0 l hc l.length 0 (by omega)
      · rw [if_neg hc]
        exact Ev.ifn hc (Ev.ifp rfl awake_ev')
  exact ev_get h
end Go.Proofs.Ytbeoacjooaioaaa.Pure
