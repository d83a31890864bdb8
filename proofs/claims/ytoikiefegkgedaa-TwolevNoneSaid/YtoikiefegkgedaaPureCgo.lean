/- Codes of lengths, plainly. -/
import Derived.Test.YtoikiefegkgedaaHCn4
import Derived.Test.YtoikiefegkgedaaBts
import Derived.Test.YtoikiefegkgedaaHCn
import Derived.Test.YtoikiefegkgedaaPx7
set_option linter.unusedVariables false
set_option linter.unusedSimpArgs false
set_option linter.unusedSectionVars false
namespace Go.Proofs.Ytoikiefegkgedaa.Pure
open Go.RowKit Go.Proofs.YtoikiefegkgedaaW.PrintWords Go.Proofs.YtoikiefegkgedaaW.PrintMore Go.Proofs.Ytoikiefegkgedaa.P Go.Proofs.Ytoikiefegkgedaa.Com Go.Proofs.Ytoikiefegkgedaa.Cn Go.Proofs.Ytoikiefegkgedaa.Hd
attribute [local irreducible] ord pos

theorem ev_get {α : Type} {f : Nat → Option α} {r : α} (h : Ev f r) : ∃ k, f k = some r := by
  obtain ⟨k, hk⟩ := h
  exact ⟨k, hk k (Nat.le_refl _)⟩
theorem and_one (x : Int) : Go.bits .and .i64 x 1 = x % 2 := by
  have e : (BitVec.ofInt 64 x &&& BitVec.ofInt 64 1).toNat = (x % 2).toNat := by
    rw [BitVec.toNat_and, BitVec.toNat_ofInt, BitVec.toNat_ofInt]
    have e1 : ((1 : Int) % ((2 ^ 64 : Nat) : Int)).toNat = 1 := by decide
    rw [e1, Nat.and_one_is_mod]
    have e2 : ((2 ^ 64 : Nat) : Int) = 18446744073709551616 := by decide
    rw [e2]
    omega
  unfold Go.bits
  show IntKind.i64.wrap ((BitVec.ofInt 64 x &&& BitVec.ofInt 64 1).toNat : Int) = x % 2
  rw [e, IntKind.wrap_i64]
  omega
/-! ### codes -/
def codesP (l : List Int) : List Int × Int := if chk l 16 = 0 then (codesL l, 0) else ([], chk l 16)
theorem codes_ev (l : List Int) (hl : l.length ≤ 17592186044416) : Ev (fun k => canon_Codes.f k l) (codesP l) := by
  refine Ev.bind (chk_ev l hl 16) ?_
  unfold codesP
  by_cases h : chk l 16 = 0
  · rw [if_pos h, if_pos h]; exact Ev.now _
  · rw [if_neg h, if_neg h]; exact Ev.now _
theorem rcodes_ev (l : List Int) (hl : l.length ≤ 17592186044416) : Ev (fun k => gladstoneref08_Codes.f k l) (codesP l) := by
  refine Ev.bind (rchk_ev l hl 16) ?_
  unfold codesP
  by_cases h : chk l 16 = 0
  · rw [if_pos h, if_pos h]; exact Ev.now _
  · rw [if_neg h, if_neg h]; exact Ev.now _
theorem chk_len {l : List Int} (h : chk l 16 = 0) : l.length ≤ 1024 ∧ ∀ x ∈ l, 0 ≤ x ∧ x ≤ 16 := by
  unfold chk at h
  rw [if_neg (by decide)] at h
  by_cases h1 : 1024 < l.length
  · rw [if_pos h1] at h; exact absurd h (by decide)
  · rw [if_neg h1] at h
    by_cases ha : l.all (fun x => decide (0 ≤ x ∧ x ≤ 16)) = false
    · rw [if_pos ha] at h; exact absurd h (by decide)
    · exact ⟨by omega, fun x hx => of_decide_eq_true (List.all_eq_true.1 (Bool.not_eq_false _ ▸ ha : l.all (fun x => decide (0 ≤ x ∧ x ≤ 16)) = true) x hx)⟩
theorem codesP_len (l : List Int) : (codesP l).1.length ≤ l.length := by
  unfold codesP
  split
  · exact Nat.le_of_eq (tabn_length _ _)
  · exact Nat.zero_le _

attribute [local irreducible] code
/-- What the codes of the lengths below one sum to. -/
def K (c : Nat → Nat) : Nat → Nat
  | 0 => 0
  | x + 1 => K c x + c x * 2 ^ (16 - x)
theorem K_add (c d : Nat → Nat) (n : Nat) : K (fun j => c j + d j) n = K c n + K d n := by
  induction n with
  | zero => rfl
  | succ n ih => simp only [K]; rw [ih, Nat.add_mul]; omega
theorem K_congr {c d : Nat → Nat} (h : ∀ j, c j = d j) (n : Nat) : K c n = K d n := by
  induction n with
  | zero => rfl
  | succ n ih => simp only [K]; rw [ih, h]
theorem K_one : ∀ x : Nat, x ≤ 16 → K (fun j => if j ≠ 0 ∧ x = j then 1 else 0) 17 = if x = 0 then 0 else 2 ^ (16 - x) := by decide
theorem K_mono (c : Nat → Nat) {a b : Nat} (h : a ≤ b) : K c a ≤ K c b := by
  induction b with
  | zero => rw [show a = 0 by omega]; exact Nat.le_refl _
  | succ b ih =>
    by_cases e : a = b + 1
    · rw [e]; exact Nat.le_refl _
    · have := ih (by omega)
      simp only [K]; omega
theorem cn_cons (x : Int) (t : List Int) (hx : 0 ≤ x) (j : Nat) : cn (x :: t) j = (if j ≠ 0 ∧ x.toNat = j then 1 else 0) + cn t j := by
  have h := cn_append [x] t j
  rw [List.singleton_append] at h
  rw [h]
  congr 1
  unfold cn
  by_cases hj : j = 0
  · simp [hj]
  · rw [if_neg hj, List.countP_cons, List.countP_nil]
    by_cases e : x.toNat = j
    · have e1 : (x == (j : Int)) = true := by rw [beq_iff_eq]; omega
      rw [e1, if_pos rfl, if_pos ⟨hj, e⟩]
    · have e1 : (x == (j : Int)) = false := by rw [beq_eq_false_iff_ne]; omega
      rw [e1, if_neg (by decide), if_neg (fun h' => e h'.2)]
theorem Su_K (l : List Int) (hl : ∀ x ∈ l, 0 ≤ x ∧ x ≤ 16) : Su 16 l = (K (cn l) 17 : Int) := by
  induction l with
  | nil =>
    have : K (cn []) 17 = 0 := by decide
    rw [this]; rfl
  | cons x t ih =>
    have hx := hl x (List.mem_cons_self ..)
    rw [Su_cons, ih (fun y hy => hl y (List.mem_cons_of_mem _ hy)), K_congr (cn_cons x t hx.1) 17, K_add, K_one x.toNat (by omega)]
    unfold wt
    by_cases h : x.toNat = 0
    · rw [if_neg (by omega), if_pos h]; simp
    · rw [if_pos (by omega), if_neg h]
      have e : (16 - x).toNat = 16 - x.toNat := by omega
      rw [e]
      simp
theorem F_K (c : Nat → Nat) (x : Nat) (hx : x ≤ 16) : F c x * 2 ^ (16 - x) = K c x := by
  induction x with
  | zero => simp [F, K]
  | succ x ih =>
    have e : 16 - x = (16 - (x + 1)) + 1 := by omega
    have h := ih (by omega)
    simp only [F, K]
    rw [← h, e, Nat.pow_succ]
    generalize 2 ^ (16 - (x + 1)) = p
    rw [Nat.mul_assoc, Nat.mul_comm 2 p, Nat.add_mul, Nat.add_comm]
theorem kraft16 {l : List Int} (h : chk l 16 = 0) : Su 16 l ≤ 65536 := by
  have hb := (chk_len h).2
  unfold chk at h
  rw [if_neg (by decide)] at h
  split at h
  · exact absurd h (by decide)
  · split at h
    · exact absurd h (by decide)
    · split at h
      · exact absurd h (by decide)
      · split at h
        · rename_i h1
          obtain ⟨x, hx0, hxm, hx⟩ := one_used l h1
          rw [hx 16]
          have := wt_bd 16 x (by decide)
          omega
        · split at h
          · rename_i h1
            rw [h1]; decide
          · exact absurd h (by decide)
theorem F_fits {l : List Int} (h : chk l 16 = 0) (x : Nat) (hx : x ≤ 16) : F (cn l) x + cn l x ≤ 2 ^ x := by
  have h1 := Su_K l (chk_len h).2
  have h2 := kraft16 h
  have h3 := K_mono (cn l) (show x + 1 ≤ 17 by omega)
  have h3' : K (cn l) (x + 1) = K (cn l) x + cn l x * 2 ^ (16 - x) := rfl
  rw [h3', ← F_K (cn l) x hx, ← Nat.add_mul] at h3
  have e : 65536 = 2 ^ x * 2 ^ (16 - x) := by rw [← Nat.pow_add, Nat.add_sub_cancel' hx]
  have h4 : (F (cn l) x + cn l x) * 2 ^ (16 - x) ≤ 2 ^ x * 2 ^ (16 - x) := by rw [← e]; omega
  exact Nat.le_of_mul_le_mul_right h4 (Nat.two_pow_pos _)
theorem F_ge (c : Nat → Nat) {x y : Nat} (h : x < y) : (F c x + c x) * 2 ^ (y - x) ≤ F c y := by
  induction y with
  | zero => omega
  | succ y ih =>
    simp only [F]
    by_cases e : x = y
    · subst e
      rw [Nat.add_sub_cancel_left, Nat.pow_one, Nat.add_comm (F c x)]
      exact Nat.le_refl _
    · have h1 := ih (by omega)
      have e2 : y + 1 - x = (y - x) + 1 := by omega
      rw [e2, Nat.pow_succ, ← Nat.mul_assoc]
      exact Nat.mul_le_mul_right 2 (Nat.le_trans h1 (Nat.le_add_left _ _))
theorem ln16 {l : List Int} (hl : ∀ x ∈ l, 0 ≤ x ∧ x ≤ 16) {i : Nat} (hi : i < l.length) : ln l i ≤ 16 ∧ l.getD i 0 = (ln l i : Int) := by
  have := hl _ (List.getElem_mem hi)
  have e : l.getD i 0 = l[i] := by rw [List.getD_eq_getElem?_getD, List.getElem?_eq_getElem hi]; rfl
  unfold ln
  rw [e]
  omega
theorem code_fits {l : List Int} (h : chk l 16 = 0) {i : Nat} (hi : i < l.length) : code l i < 2 ^ ln l i := by
  have hl := (chk_len h).2
  by_cases h0 : 0 < l.getD i 0
  · rw [code_pos h0]
    have h1 := rank_lt hi h0
    have h2 := F_fits h (ln l i) (ln16 hl hi).1
    omega
  · have : code l i = 0 := by unfold code; exact if_pos (by unfold ln; omega)
    rw [this]
    exact Nat.two_pow_pos _
theorem code_free {l : List Int} (h : chk l 16 = 0) {i k : Nat} (hi : i < l.length) (hk : k < l.length) (hik : i ≠ k) (h0 : 0 < l.getD i 0) (hle : ln l i ≤ ln l k) : code l k / 2 ^ (ln l k - ln l i) ≠ code l i := by
  have hl := (chk_len h).2
  have hk0 : 0 < l.getD k 0 := by have := (ln16 hl hk).2; have := (ln16 hl hi).2; omega
  have r1 := rank_lt hi h0
  have r2 := rank_lt hk hk0
  by_cases e : ln l i = ln l k
  · rw [e, Nat.sub_self, Nat.pow_zero, Nat.div_one, code_pos h0, code_pos hk0, e]
    intro e2
    have o1 := (od_pos hl hi h0).2
    have o2 := (od_pos hl hk hk0).2
    have ep : pos l i = pos l k := by unfold pos; rw [e]; omega
    rw [ep, o2] at o1
    exact hik o1.symm
  · have h1 := F_ge (cn l) (show ln l i < ln l k by omega)
    have h2 : F (cn l) (ln l i) + cn l (ln l i) ≤ code l k / 2 ^ (ln l k - ln l i) := by
      rw [Nat.le_div_iff_mul_le (Nat.two_pow_pos _), code_pos hk0]
      omega
    rw [code_pos h0]
    omega
theorem codes_rd {l : List Int} {i : Nat} (hi : i < l.length) : rd (codesL l) (i : Int) = (code l i : Int) := rd_some (tabn_get hi)
theorem l_rd {l : List Int} (hl : ∀ x ∈ l, 0 ≤ x ∧ x ≤ 16) {i : Nat} (hi : i < l.length) : rd l (i : Int) = (ln l i : Int) := by rw [rd_nat]; exact (ln16 hl hi).2
theorem codes_len (l : List Int) : (codesL l).length = l.length := tabn_length _ _
theorem shr_nat64 (x s : Nat) (hs : s ≤ 64) : shr .i64 (x : Int) (s : Int) = ((x / 2 ^ s : Nat) : Int) := by
  unfold shr
  have e : min ((s : Int)).toNat IntKind.i64.bits = s := by simp [IntKind.bits]; omega
  rw [e]; simp
end Go.Proofs.Ytoikiefegkgedaa.Pure
/- Codes bit by bit, plainly (no slow in sight). -/
namespace Go.Proofs.Ytoikiefegkgedaa.Pure
open Go.RowKit Go.Proofs.YtoikiefegkgedaaW.PrintWords Go.Proofs.YtoikiefegkgedaaW.PrintMore Go.Proofs.Ytoikiefegkgedaa.P Go.Proofs.Ytoikiefegkgedaa.Com Go.Proofs.Ytoikiefegkgedaa.Cn Go.Proofs.Ytoikiefegkgedaa.Hd
attribute [local irreducible] ord pos code
/-- So many bits of a number, the highest first. -/
def mb (c : Nat) : Nat → List Bool
  | 0 => []
  | n + 1 => (c / 2 ^ n % 2 == 1) :: mb c n
theorem mb_length (c n : Nat) : (mb c n).length = n := by
  induction n with
  | zero => rfl
  | succ n ih => simp [mb, ih]
theorem mb_add (c a b : Nat) : mb c (a + b) = mb (c / 2 ^ b) a ++ mb c b := by
  induction a with
  | zero => rw [Nat.zero_add]; rfl
  | succ a ih =>
    rw [show a + 1 + b = (a + b) + 1 by omega]
    simp only [mb, List.cons_append]
    rw [ih, Nat.div_div_eq_div_mul, ← Nat.pow_add, Nat.add_comm b a]
theorem mb_snoc (c n : Nat) (b : Bool) : mb (2 * c + (if b = true then 1 else 0)) (n + 1) = mb c n ++ [b] := by
  rw [mb_add]
  have e1 : (2 * c + (if b = true then 1 else 0)) / 2 ^ 1 = c := by split <;> omega
  rw [e1]
  congr 1
  simp only [mb]
  cases b <;> simp <;> omega
theorem S_step {c : Nat → Nat} {a b : Nat} (h : a < b) : S c a + c a ≤ S c b := S_mono c (show a + 1 ≤ b by omega)
theorem sym_of {l : List Int} (hl : ∀ x ∈ l, 0 ≤ x ∧ x ≤ 16) {j v : Nat} (hj : j ≤ 16) (h1 : F (cn l) j ≤ v) (h2 : v < F (cn l) j + cn l j) : ∃ i, i < l.length ∧ 0 < l.getD i 0 ∧ ln l i = j ∧ code l i = v ∧ od l (S (cn l) j + (v - F (cn l) j)) = i := by
  have hs := S_mono (cn l) (show j + 1 ≤ 17 by omega)
  have hs' : S (cn l) (j + 1) = S (cn l) j + cn l j := rfl
  have hp : S (cn l) j + (v - F (cn l) j) < (ord l).length := by rw [ord_length]; omega
  obtain ⟨m1, m2, m3⟩ := od_mem hp
  have hpo := pos_od hl hp
  obtain ⟨i, hi⟩ : ∃ i, od l (S (cn l) j + (v - F (cn l) j)) = i := ⟨_, rfl⟩
  rw [hi] at m1 m2 m3 hpo
  have hr := rank_lt m1 m2
  have e : pos l i = S (cn l) (ln l i) + rank l i := by unfold pos; rfl
  rw [e] at hpo
  have ej : ln l i = j := by
    rcases Nat.lt_trichotomy (ln l i) j with h | h | h
    · have := S_step (c := cn l) h; omega
    · exact h
    · have := S_step (c := cn l) h; omega
  refine ⟨i, m1, m2, ej, ?_, hi⟩
  rw [code_pos m2, ej]
  rw [ej] at hpo
  omega
theorem code_in {l : List Int} {i : Nat} (hi : i < l.length) (h0 : 0 < l.getD i 0) : F (cn l) (ln l i) ≤ code l i ∧ code l i < F (cn l) (ln l i) + cn l (ln l i) := by
  have := rank_lt hi h0
  rw [code_pos h0]
  omega
theorem ln_pos {l : List Int} {i : Nat} (h0 : 0 < l.getD i 0) : 1 ≤ ln l i := by unfold ln; omega
/-- A code's bits are found. -/
theorem sdm_hit {l : List Int} (h : chk l 16 = 0) {L v : Nat} (hL : L ≤ 16) (h1 : F (cn l) L ≤ v) (h2 : v < F (cn l) L + cn l L) (rest : List Bool) (j : Nat) : ∀ m kk, kk + j = L → m + kk = 16 →
    sdm l (m + 1) kk (v / 2 ^ (j + 1)) (mb v (j + 1) ++ rest) = ((od l (S (cn l) L + (v - F (cn l) L)) : Int), (L : Int), 0) := by
  induction j with
  | zero =>
    intro m kk hk hm
    have ek : kk = L := by omega
    subst ek
    simp only [mb, List.cons_append, sdm, List.nil_append]
    have ed : 2 * (v / 2 ^ (0 + 1)) + (if (v / 2 ^ 0 % 2 == 1) = true then 1 else 0) = v := by
      rw [Nat.pow_zero, Nat.div_one]
      by_cases hb : v % 2 = 1
      · rw [hb]; simp; omega
      · have : v % 2 = 0 := by omega
        rw [this]; simp; omega
    rw [ed, if_pos (by omega)]
  | succ j ih =>
    intro m kk hk hm
    obtain ⟨m, rfl⟩ : ∃ p, m = p + 1 := ⟨m - 1, by omega⟩
    rw [show mb v (j + 1 + 1) = (v / 2 ^ (j + 1) % 2 == 1) :: mb v (j + 1) from rfl, List.cons_append, sdm]
    have ed : 2 * (v / 2 ^ (j + 1 + 1)) + (if (v / 2 ^ (j + 1) % 2 == 1) = true then 1 else 0) = v / 2 ^ (j + 1) := by
      have e : v / 2 ^ (j + 1 + 1) = v / 2 ^ (j + 1) / 2 := by rw [Nat.div_div_eq_div_mul, ← Nat.pow_succ]
      rw [e]
      generalize v / 2 ^ (j + 1) = y
      by_cases hb : y % 2 = 1
      · rw [hb]; simp; omega
      · have : y % 2 = 0 := by omega
        rw [this]; simp; omega
    have hF := F_ge (cn l) (show kk < L by omega)
    rw [show L - kk = j + 1 by omega] at hF
    have hd : F (cn l) kk + cn l kk ≤ v / 2 ^ (j + 1) := by rw [Nat.le_div_iff_mul_le (Nat.two_pow_pos _)]; omega
    have hS1 := S_mono (cn l) (show kk + 1 ≤ L by omega)
    have hS2 := S_step (c := cn l) (show L < 17 by omega)
    rw [ed, if_neg (by omega), if_neg (by rw [ord_length]; omega)]
    exact ih m (kk + 1) (by omega) (by omega)
theorem K_S {c : Nat → Nat} {a : Nat} (b : Nat) (hab : a ≤ b) (h : K c a = K c b) : S c a = S c b := by
  induction b with
  | zero => rw [show a = 0 by omega]
  | succ b ih =>
    by_cases e : a = b + 1
    · rw [e]
    · have h1 := K_mono c (show a ≤ b by omega)
      have h2 : K c (b + 1) = K c b + c b * 2 ^ (16 - b) := rfl
      have h3 : c b * 2 ^ (16 - b) = 0 := by omega
      have h4 : c b = 0 := by
        rcases Nat.mul_eq_zero.1 h3 with h | h
        · exact h
        · have := Nat.two_pow_pos (16 - b); omega
      have h5 : S c (b + 1) = S c b + c b := rfl
      rw [h5, h4, ih (by omega) (by omega)]
      omega
/-- A code, or all of them together: no room is left. -/
theorem full {l : List Int} (h : chk l 16 = 0) : (∃ i, i < l.length ∧ l.getD i 0 = 1 ∧ K (cn l) 2 = K (cn l) 17) ∨ K (cn l) 17 = 65536 := by
  have hb := (chk_len h).2
  have hK := Su_K l hb
  unfold chk at h
  rw [if_neg (by decide)] at h
  split at h
  · exact absurd h (by decide)
  · split at h
    · exact absurd h (by decide)
    · split at h
      · exact absurd h (by decide)
      · split at h
        · rename_i h1
          obtain ⟨x, hx0, hxm, hx⟩ := one_used l h1
          split at h
          · rename_i h2
            rw [hx 1] at h2
            have e1 : x = 1 := by
              unfold wt at h2
              split at h2
              · omega
              · exact absurd h2 (by decide)
            subst e1
            left
            obtain ⟨i, hi, he⟩ := List.getElem_of_mem hxm
            have hg : l.getD i 0 = 1 := by rw [List.getD_eq_getElem?_getD, List.getElem?_eq_getElem hi]; exact he
            refine ⟨i, hi, hg, ?_⟩
            rw [hx 16] at hK
            have hK2 : K (cn l) 17 = 32768 := by have : wt 16 1 = 32768 := by decide
                                                 omega
            have h3 := K_mono (cn l) (show 2 ≤ 17 by omega)
            have h4 : K (cn l) 2 = 0 + cn l 0 * 2 ^ 16 + cn l 1 * 2 ^ 15 := rfl
            have h5 : 1 ≤ cn l 1 := by
              have hl1 : ln l i = 1 := by unfold ln; rw [hg]; rfl
              have := rank_lt hi (by rw [hg]; decide)
              rw [hl1] at this
              omega
            rw [cn_zero] at h4
            have h6 : (2 : Nat) ^ 15 = 32768 := by decide
            rw [h6] at h4
            omega
          · exact absurd h (by decide)
        · split at h
          · rename_i h2
            right
            rw [h2] at hK
            have : ((2 : Int) ^ (16 : Int).toNat) = 65536 := by decide
            omega
          · exact absurd h (by decide)
theorem grow {l : List Int} (hl : ∀ x ∈ l, 0 ≤ x ∧ x ≤ 16) (hK : K (cn l) 17 = 65536) {kn c : Nat} (d : Nat) : ∀ j v, j + d = 16 → kn ≤ j → F (cn l) j + cn l j ≤ v → v < 2 ^ j → v / 2 ^ (j - kn) = c →
    ∃ i, i < l.length ∧ 0 < l.getD i 0 ∧ kn ≤ ln l i ∧ code l i / 2 ^ (ln l i - kn) = c := by
  induction d with
  | zero =>
    intro j v hj hk h1 h2 h3
    have ej : j = 16 := by omega
    subst ej
    have e1 := F_K (cn l) 16 (by omega)
    have e2 : K (cn l) 17 = K (cn l) 16 + cn l 16 * 2 ^ 0 := rfl
    have e3 : (2 : Nat) ^ 16 = 65536 := by decide
    rw [Nat.sub_self, Nat.pow_zero, Nat.mul_one] at e1
    rw [Nat.pow_zero, Nat.mul_one] at e2
    omega
  | succ d ih =>
    intro j v hj hk h1 h2 h3
    have eF : F (cn l) (j + 1) = 2 * (F (cn l) j + cn l j) := by rw [F]; omega
    have ev : 2 * v / 2 ^ (j + 1 - kn) = c := by
      rw [show j + 1 - kn = (j - kn) + 1 by omega, Nat.pow_succ, Nat.mul_comm (2 ^ (j - kn)) 2, Nat.mul_div_mul_left _ _ (by decide)]
      exact h3
    by_cases hb : 2 * v < F (cn l) (j + 1) + cn l (j + 1)
    · obtain ⟨i, i1, i2, i3, i4, _⟩ := sym_of hl (show j + 1 ≤ 16 by omega) (v := 2 * v) (by omega) hb
      exact ⟨i, i1, i2, by omega, by rw [i3, i4]; exact ev⟩
    · exact ih (j + 1) (2 * v) (by omega) (by omega) (by omega) (by rw [Nat.pow_succ]; omega) ev
theorem more {l : List Int} (h : chk l 16 = 0) {kn c : Nat} (hk : kn ≤ 16) (h1 : F (cn l) kn + cn l kn ≤ c) (h2 : c < 2 ^ kn) (h3 : 1 ≤ kn → S (cn l) (kn + 1) ≠ (ord l).length) :
    ∃ i, i < l.length ∧ 0 < l.getD i 0 ∧ kn ≤ ln l i ∧ code l i / 2 ^ (ln l i - kn) = c := by
  have hl := (chk_len h).2
  rcases full h with ⟨i, hi, hg, hK⟩ | hK
  · by_cases h0 : kn = 0
    · subst h0
      have hc : c = 0 := by rw [Nat.pow_zero] at h2; omega
      subst hc
      refine ⟨i, hi, by rw [hg]; decide, Nat.zero_le _, ?_⟩
      rw [Nat.sub_zero]
      exact Nat.div_eq_of_lt (code_fits h hi)
    · have e1 := K_S 17 (by omega) hK
      have e2 := S_mono (cn l) (show 2 ≤ kn + 1 by omega)
      have e3 := S_mono (cn l) (show kn + 1 ≤ 17 by omega)
      exact absurd (by rw [ord_length]; omega) (h3 (by omega))
  · exact grow hl hK (16 - kn) kn c (by omega) (Nat.le_refl _) h1 h2 (by rw [Nat.sub_self, Nat.pow_zero, Nat.div_one])
/-- No code is there: too few bits, or no code at all. -/
theorem sdm_miss {l : List Int} (h : chk l 16 = 0) (row : List Bool) (hno : ∀ i, i < l.length → 0 < l.getD i 0 → ¬ mb (code l i) (ln l i) <+: row) (m : Nat) : ∀ kn c t, kn + m = 16 → row = mb c kn ++ t → c < 2 ^ kn → F (cn l) kn + cn l kn ≤ c → (1 ≤ kn → S (cn l) (kn + 1) ≠ (ord l).length) →
    (sdm l m (kn + 1) c t = (0, 0, 3) ∧ ∃ i, i < l.length ∧ 0 < l.getD i 0 ∧ row <+: mb (code l i) (ln l i)) ∨ (sdm l m (kn + 1) c t = (0, 0, 4) ∧ ∀ i, i < l.length → 0 < l.getD i 0 → ¬ row <+: mb (code l i) (ln l i)) := by
  have hl := (chk_len h).2
  have same : ∀ i, i < l.length → 0 < l.getD i 0 → ln l i ≤ row.length → ¬ row <+: mb (code l i) (ln l i) := by
    intro i hi h0 hle hp
    have e : row = mb (code l i) (ln l i) := hp.eq_of_length_le (by rw [mb_length]; exact hle)
    exact hno i hi h0 (by rw [← e]; exact List.prefix_refl _)
  induction m with
  | zero =>
    intro kn c t hk hrow _ _ _
    right
    refine ⟨rfl, fun i hi h0 => same i hi h0 ?_⟩
    have := (ln16 hl hi).1
    rw [hrow, List.length_append, mb_length]
    omega
  | succ m ih =>
    intro kn c t hk hrow hc hF hS
    cases t with
    | nil =>
      left
      refine ⟨rfl, ?_⟩
      obtain ⟨i, i1, i2, i3, i4⟩ := more h (by omega) hF hc hS
      refine ⟨i, i1, i2, ?_⟩
      rw [hrow, List.append_nil, show ln l i = kn + (ln l i - kn) by omega, mb_add]
      rw [i4]
      exact List.prefix_append _ _
    | cons b t =>
      have hrow2 : row = mb (2 * c + (if b = true then 1 else 0)) (kn + 1) ++ t := by rw [mb_snoc, List.append_assoc]; exact hrow
      have hF1 : F (cn l) (kn + 1) = 2 * (F (cn l) kn + cn l kn) := by rw [F]; omega
      have hlen : kn + 1 ≤ row.length := by rw [hrow2, List.length_append, mb_length]; omega
      rw [sdm]
      have hd1 : 2 * c ≤ 2 * c + (if b = true then 1 else 0) := Nat.le_add_right _ _
      have hd2 : 2 * c + (if b = true then 1 else 0) < 2 ^ (kn + 1) := by rw [Nat.pow_succ]; split <;> omega
      obtain ⟨d, hd⟩ : ∃ d : Nat, 2 * c + (if b = true then 1 else 0) = d := ⟨_, rfl⟩
      rw [hd] at hrow2 hd1 hd2
      rw [hd]
      by_cases hlt : d < F (cn l) (kn + 1) + cn l (kn + 1)
      · obtain ⟨i, i1, i2, i3, i4, _⟩ := sym_of hl (show kn + 1 ≤ 16 by omega) (v := d) (by omega) hlt
        exact absurd (by rw [i3, i4, hrow2]; exact List.prefix_append _ _) (hno i i1 i2)
      · rw [if_neg hlt]
        by_cases hs : S (cn l) (kn + 1 + 1) = (ord l).length
        · rw [if_pos hs]
          right
          refine ⟨rfl, fun i hi h0 => same i hi h0 ?_⟩
          apply Nat.le_trans _ hlen
          apply Nat.le_of_not_lt
          intro hgt
          have g1 := S_mono (cn l) (show kn + 1 + 1 ≤ ln l i by omega)
          have g2 := S_step (c := cn l) (show ln l i < 17 by have := (ln16 hl hi).1; omega)
          have g3 := rank_lt hi h0
          rw [ord_length] at hs
          omega
        · rw [if_neg hs]
          exact ih (kn + 1) d t (by omega) hrow2 hd2 (by omega) (fun _ => hs)
end Go.Proofs.Ytoikiefegkgedaa.Pure
/- What the reference's Decode computes. -/
namespace Go.Proofs.Ytoikiefegkgedaa.Pure
open Go.RowKit Go.Proofs.YtoikiefegkgedaaW.PrintWords Go.Proofs.YtoikiefegkgedaaW.PrintMore Go.Proofs.Ytoikiefegkgedaa.P Go.Proofs.Ytoikiefegkgedaa.Com Go.Proofs.Ytoikiefegkgedaa.Cn Go.Proofs.Ytoikiefegkgedaa.Hd
attribute [local irreducible] ord pos code
theorem bits_l0 (c : Nat) (m : Nat) (hm : m ≤ 16) : ∀ acc : List Bool, acc.length + m ≤ 1000000 → Ev (fun k => gladstoneref09_bits.l0 k (c : Int) acc ((m : Int) - 1)) (acc ++ mb c m) := by
  induction m with
  | zero =>
    intro acc _
    refine Ev.step (f := fun _ => some acc) (fun k => ?_) (by rw [mb, List.append_nil]; exact Ev.now _)
    simp only [gladstoneref09_bits.l0]
    rw [if_neg (by omega)]
  | succ m ih =>
    intro acc ha
    refine Ev.step (fun k => ?_) (show Ev (fun k => gladstoneref09_bits.l0 k (c : Int) (acc ++ [c / 2 ^ m % 2 == 1]) ((m : Int) - 1)) (acc ++ mb c (m + 1)) from ?_)
    · simp only [gladstoneref09_bits.l0]
      have e1 : IntKind.u64.wrap (((m + 1 : Nat) : Int) - 1) = (m : Int) := by rw [wu64 (by omega) (by omega)]; omega
      have e2 : wrap64 (((m + 1 : Nat) : Int) - 1 - 1) = (m : Int) - 1 := by rw [w64 (by omega) (by omega)]; omega
      rw [if_pos (by omega), e1, if_pos (by omega), if_pos (by omega), e2, shr_nat64 _ _ (by omega), and_one]
      have e3 : ((((c / 2 ^ m : Nat) : Int) % 2) == 1) = (c / 2 ^ m % 2 == 1) := by
        by_cases h : c / 2 ^ m % 2 = 1
        · rw [show (((c / 2 ^ m : Nat) : Int) % 2) = 1 by omega, h]; rfl
        · have h0 : c / 2 ^ m % 2 = 0 := by omega
          rw [show (((c / 2 ^ m : Nat) : Int) % 2) = 0 by omega, h0]; rfl
      rw [e3]
    · have h := ih (by omega) (acc ++ [c / 2 ^ m % 2 == 1]) (by rw [List.length_append, List.length_singleton]; omega)
      rw [List.append_assoc] at h
      exact h
theorem bits_ev (c n : Nat) (hn : n ≤ 16) : Ev (fun k => gladstoneref09_bits.f k (c : Int) (n : Int)) (mb c n) := by
  have h := bits_l0 c n hn [] (by rw [List.length_nil]; omega)
  rw [List.nil_append] at h
  refine Ev.congr (fun k => ?_) h
  unfold gladstoneref09_bits.f
  rw [w64 (by omega) (by omega)]
theorem begins_l0 (a b : List Bool) (hab : b.length ≤ a.length) (hb : a.length ≤ 1000000) (d : Nat) : ∀ i, i + d = b.length → Ev (fun k => gladstoneref09_begins.l0 k a b (i : Int)) (decide (b.drop i <+: a.drop i)) := by
  induction d with
  | zero =>
    intro i hi
    have e : decide (b.drop i <+: a.drop i) = true := by
      rw [List.drop_eq_nil_of_le (show b.length ≤ i by omega)]; exact decide_eq_true (List.nil_prefix)
    rw [e]
    refine Ev.step (f := fun _ => some true) (fun k => ?_) (Ev.now _)
    simp only [gladstoneref09_begins.l0]
    rw [if_neg (by omega)]
  | succ d ih =>
    intro i hi
    have hib : i < b.length := by omega
    have hia : i < a.length := by omega
    have eb : b.drop i = b.getD i false :: b.drop (i + 1) := by
      rw [List.drop_eq_getElem_cons hib, List.getD_eq_getElem?_getD, List.getElem?_eq_getElem hib]; rfl
    have ea : a.drop i = a.getD i false :: a.drop (i + 1) := by
      rw [List.drop_eq_getElem_cons hia, List.getD_eq_getElem?_getD, List.getElem?_eq_getElem hia]; rfl
    have ew : wrap64 ((i : Int) + 1) = ((i + 1 : Nat) : Int) := by rw [w64 (by omega) (by omega)]; omega
    by_cases hx : b.getD i false = a.getD i false
    · have e : decide (b.drop i <+: a.drop i) = decide (b.drop (i + 1) <+: a.drop (i + 1)) := by
        rw [eb, ea]
        exact decide_eq_decide.2 (by rw [List.cons_prefix_cons]; exact ⟨fun h => h.2, fun h => ⟨hx, h⟩⟩)
      rw [e]
      refine Ev.step (fun k => ?_) (ih (i + 1) (by omega))
      simp only [gladstoneref09_begins.l0]
      rw [if_pos (by omega), if_pos (by omega), if_pos (by omega), rdOf_nat, rdOf_nat, hx, bne_self_eq_false, if_neg (by decide), ew]
    · have e : decide (b.drop i <+: a.drop i) = false := by
        rw [eb, ea]
        exact decide_eq_false (by rw [List.cons_prefix_cons]; exact fun h => hx h.1)
      rw [e]
      refine Ev.step (f := fun _ => some false) (fun k => ?_) (Ev.now _)
      simp only [gladstoneref09_begins.l0]
      rw [if_pos (by omega), if_pos (by omega), if_pos (by omega), rdOf_nat, rdOf_nat, if_pos (bne_iff_ne.2 (fun h => hx h.symm))]
theorem begins_ev (a b : List Bool) (hb : a.length ≤ 1000000) : Ev (fun k => gladstoneref09_begins.f k a b) (decide (b <+: a)) := by
  by_cases h : b.length ≤ a.length
  · have h1 := begins_l0 a b h hb b.length 0 (by omega)
    rw [List.drop_zero, List.drop_zero] at h1
    refine Ev.congr (fun k => ?_) h1
    unfold gladstoneref09_begins.f
    rw [if_neg (by omega)]
    rfl
  · rw [decide_eq_false (fun hp => h hp.length_le)]
    refine Ev.congr (f := fun _ => some false) (fun k => ?_) (Ev.now _)
    unfold gladstoneref09_begins.f
    rw [if_pos (by omega)]
theorem dec_zero {l : List Int} (hn : l.length ≤ 1024) (row : List Bool) {i : Nat} (hi : i < l.length) (h0 : l.getD i 0 = 0) {s : Bool} {R : Int × Int × Int} (h : Ev (fun k => gladstoneref09_Decode.l0 k l row (codesL l) s ((i + 1 : Nat) : Int)) R) : Ev (fun k => gladstoneref09_Decode.l0 k l row (codesL l) s (i : Int)) R := by
  refine Ev.step (fun k => ?_) h
  simp only [gladstoneref09_Decode.l0]
  have ew : wrap64 ((i : Int) + 1) = ((i + 1 : Nat) : Int) := by rw [w64 (by omega) (by omega)]; omega
  rw [if_pos (by omega), if_pos (by omega), rd_nat, if_pos h0, ew]
theorem dec_code {l : List Int} (hc : chk l 16 = 0) (row : List Bool) (hr : row.length ≤ 1000) {i : Nat} (hi : i < l.length) (h0 : 0 < l.getD i 0) {s : Bool} {R : Int × Int × Int}
    (h : Ev (fun k => if decide (mb (code l i) (ln l i) <+: row) = true then some ((i : Int), (ln l i : Int), (0 : Int)) else gladstoneref09_Decode.l0 k l row (codesL l) (s || decide (row <+: mb (code l i) (ln l i))) ((i + 1 : Nat) : Int)) R) : Ev (fun k => gladstoneref09_Decode.l0 k l row (codesL l) s (i : Int)) R := by
  have hn := (chk_len hc).1
  have hl := (ln16 (chk_len hc).2 hi).1
  have hp := ln_pos h0
  have ew : wrap64 ((i : Int) + 1) = ((i + 1 : Nat) : Int) := by rw [w64 (by omega) (by omega)]; omega
  refine Ev.step (f := fun k => (gladstoneref09_bits.f k (code l i : Int) (ln l i : Int)).bind fun t191 => ((gladstoneref09_begins.f k row t191).bind fun t194 => (if t194 = true then (some ((i : Int), (ln l i : Int), 0)) else (if s = true then (gladstoneref09_Decode.l0 k l row (codesL l) true ((i + 1 : Nat) : Int)) else ((gladstoneref09_begins.f k t191 row).bind fun t196 => (gladstoneref09_Decode.l0 k l row (codesL l) t196 ((i + 1 : Nat) : Int))))))) (fun k => ?_) ?_
  · simp only [gladstoneref09_Decode.l0]
    rw [if_pos (by omega), if_pos (by omega), l_rd (chk_len hc).2 hi, if_neg (by omega), codes_len, if_pos (by omega), codes_rd hi, ew]
  · refine Ev.bind (bits_ev _ _ hl) ?_
    refine Ev.bind (begins_ev row _ (by omega)) ?_
    by_cases hx : decide (mb (code l i) (ln l i) <+: row) = true
    · simp only [hx, if_true] at h ⊢
      exact h
    · simp only [hx] at h ⊢
      cases s with
      | true => simpa using h
      | false =>
        have h2 := Ev.bind (f := fun k t196 => gladstoneref09_Decode.l0 k l row (codesL l) t196 ((i + 1 : Nat) : Int)) (begins_ev (mb (code l i) (ln l i)) row (by rw [mb_length]; omega)) (by simpa using h)
        simpa using h2
theorem sdm_code {l : List Int} (h : chk l 16 = 0) {i : Nat} (hi : i < l.length) (h0 : 0 < l.getD i 0) (rest : List Bool) : sdm l 16 1 0 (mb (code l i) (ln l i) ++ rest) = ((i : Int), (ln l i : Int), 0) := by
  have hl := (chk_len h).2
  have hp := ln_pos h0
  have h16 := (ln16 hl hi).1
  have hc := code_in hi h0
  have hs := sdm_hit h h16 hc.1 hc.2 rest (ln l i - 1) 15 1 (by omega) (by omega)
  rw [show ln l i - 1 + 1 = ln l i by omega, Nat.div_eq_of_lt (code_fits h hi)] at hs
  have ho := (od_pos hl hi h0).2
  have e : pos l i = S (cn l) (ln l i) + rank l i := by unfold pos; rfl
  rw [e] at ho
  have e2 : code l i - F (cn l) (ln l i) = rank l i := by rw [code_pos h0]; omega
  rw [e2, ho] at hs
  exact hs
theorem dec_hit {l : List Int} (h : chk l 16 = 0) (row : List Bool) (hr : row.length ≤ 1000) (d : Nat) : ∀ i (s : Bool), i + d = l.length → (∃ j, i ≤ j ∧ j < l.length ∧ 0 < l.getD j 0 ∧ mb (code l j) (ln l j) <+: row) → Ev (fun k => gladstoneref09_Decode.l0 k l row (codesL l) s (i : Int)) (sdm l 16 1 0 row) := by
  have hn := (chk_len h).1
  induction d with
  | zero => intro i s hi ⟨j, h1, h2, _⟩; omega
  | succ d ih =>
    intro i s hi hj
    have hil : i < l.length := by omega
    by_cases h0 : 0 < l.getD i 0
    · by_cases hp : mb (code l i) (ln l i) <+: row
      · refine dec_code h row hr hil h0 ?_
        simp only [decide_eq_true hp, if_true]
        obtain ⟨t, ht⟩ := hp
        rw [← ht, sdm_code h hil h0]
        exact Ev.now _
      · refine dec_code h row hr hil h0 ?_
        simp only [decide_eq_false hp]
        obtain ⟨j, h1, h2, h3, h4⟩ := hj
        have hji : i + 1 ≤ j := by
          rcases Nat.lt_or_ge i j with hlt | hge
          · exact hlt
          · have : i = j := by omega
            subst this
            exact absurd h4 hp
        exact ih (i + 1) _ (by omega) ⟨j, hji, h2, h3, h4⟩
    · have hz : l.getD i 0 = 0 := by have := (ln16 (chk_len h).2 hil).2; omega
      refine dec_zero hn row hil hz ?_
      obtain ⟨j, h1, h2, h3, h4⟩ := hj
      have hji : i + 1 ≤ j := by
        rcases Nat.lt_or_ge i j with hlt | hge
        · exact hlt
        · have : i = j := by omega
          subst this
          omega
      exact ih (i + 1) _ (by omega) ⟨j, hji, h2, h3, h4⟩
/-- No code is met: whether one was begun. -/
theorem dec_miss {l : List Int} (h : chk l 16 = 0) (row : List Bool) (hr : row.length ≤ 1000) (hno : ∀ i, i < l.length → 0 < l.getD i 0 → ¬ mb (code l i) (ln l i) <+: row) (d : Nat) : ∀ i (s : Bool) (e : Int), i + d = l.length →
    ((s = true ∨ ∃ j, i ≤ j ∧ j < l.length ∧ 0 < l.getD j 0 ∧ row <+: mb (code l j) (ln l j)) → e = 3) → ((¬ (s = true ∨ ∃ j, i ≤ j ∧ j < l.length ∧ 0 < l.getD j 0 ∧ row <+: mb (code l j) (ln l j))) → e = 4) → Ev (fun k => gladstoneref09_Decode.l0 k l row (codesL l) s (i : Int)) (0, 0, e) := by
  have hn := (chk_len h).1
  induction d with
  | zero =>
    intro i s e hi h3 h4
    cases s with
    | true =>
      rw [h3 (.inl rfl)]
      refine Ev.step (f := fun _ => some (0, 0, 3)) (fun k => ?_) (Ev.now _)
      simp only [gladstoneref09_Decode.l0]
      rw [if_neg (by omega)]; simp
    | false =>
      rw [h4 (by rintro (h | ⟨j, h1, h2, _⟩) <;> first | exact absurd h (by decide) | omega)]
      refine Ev.step (f := fun _ => some (0, 0, 4)) (fun k => ?_) (Ev.now _)
      simp only [gladstoneref09_Decode.l0]
      rw [if_neg (by omega)]; simp
  | succ d ih =>
    intro i s e hi h3 h4
    have hil : i < l.length := by omega
    by_cases h0 : 0 < l.getD i 0
    · refine dec_code h row hr hil h0 ?_
      simp only [decide_eq_false (hno i hil h0)]
      have key : ((s || decide (row <+: mb (code l i) (ln l i))) = true ∨ ∃ j, i + 1 ≤ j ∧ j < l.length ∧ 0 < l.getD j 0 ∧ row <+: mb (code l j) (ln l j)) ↔ (s = true ∨ ∃ j, i ≤ j ∧ j < l.length ∧ 0 < l.getD j 0 ∧ row <+: mb (code l j) (ln l j)) := by
        rw [Bool.or_eq_true, decide_eq_true_iff]
        constructor
        · rintro ((hs | hp) | ⟨j, h1, h2⟩)
          · exact .inl hs
          · exact .inr ⟨i, Nat.le_refl _, hil, h0, hp⟩
          · exact .inr ⟨j, by omega, h2⟩
        · rintro (hs | ⟨j, h1, h2⟩)
          · exact .inl (.inl hs)
          · by_cases hij : i = j
            · subst hij; exact .inl (.inr h2.2.2)
            · exact .inr ⟨j, by omega, h2⟩
      exact ih (i + 1) _ e (by omega) (fun hk => h3 (key.1 hk)) (fun hk => h4 (fun hh => hk (key.2 hh)))
    · have hz : l.getD i 0 = 0 := by have := (ln16 (chk_len h).2 hil).2; omega
      refine dec_zero hn row hil hz ?_
      have key : (s = true ∨ ∃ j, i + 1 ≤ j ∧ j < l.length ∧ 0 < l.getD j 0 ∧ row <+: mb (code l j) (ln l j)) ↔ (s = true ∨ ∃ j, i ≤ j ∧ j < l.length ∧ 0 < l.getD j 0 ∧ row <+: mb (code l j) (ln l j)) := by
        constructor
        · rintro (hs | ⟨j, h1, h2⟩)
          · exact .inl hs
          · exact .inr ⟨j, by omega, h2⟩
        · rintro (hs | ⟨j, h1, h2⟩)
          · exact .inl hs
          · by_cases hij : i = j
            · subst hij; omega
            · exact .inr ⟨j, by omega, h2⟩
      exact ih (i + 1) _ e (by omega) (fun hk => h3 (key.1 hk)) (fun hk => h4 (fun hh => hk (key.2 hh)))
def decP (l : List Int) (row : List Bool) : Int × Int × Int := if chk l 16 = 0 then sdm l 16 1 0 row else (0, 0, chk l 16)
theorem rdecode_ev (l : List Int) (hl : l.length ≤ 17592186044416) (row : List Bool) (hr : row.length ≤ 1000) : Ev (fun k => gladstoneref09_Decode.f k l row) (decP l row) := by
  refine Ev.bind (rcodes_ev l hl) ?_
  unfold decP codesP
  by_cases h : chk l 16 = 0
  · rw [if_pos h, if_pos h]
    refine Ev.ifp rfl ?_
    show Ev (fun k => gladstoneref09_Decode.l0 k l row (codesL l) false ((0 : Nat) : Int)) _
    by_cases hx : ∃ j, 0 ≤ j ∧ j < l.length ∧ 0 < l.getD j 0 ∧ mb (code l j) (ln l j) <+: row
    · exact dec_hit h row hr l.length 0 false (by omega) hx
    · have hno : ∀ i, i < l.length → 0 < l.getD i 0 → ¬ mb (code l i) (ln l i) <+: row := fun i h1 h2 h3 => hx ⟨i, Nat.zero_le _, h1, h2, h3⟩
      rcases sdm_miss h row hno 16 0 0 row (by omega) (by rw [mb]; rfl) (by decide) (by simp [F, cn_zero]) (fun h => by omega) with ⟨e, j, h1, h2, h3⟩ | ⟨e, h3⟩
      · rw [e]
        exact dec_miss h row hr hno l.length 0 false 3 (by omega) (fun _ => rfl) (fun hk => absurd (.inr ⟨j, Nat.zero_le _, h1, h2, h3⟩) hk)
      · rw [e]
        refine dec_miss h row hr hno l.length 0 false 4 (by omega) (fun hk => ?_) (fun _ => rfl)
        rcases hk with hk | ⟨j, _, h1, h2, h4⟩
        · exact absurd hk (by decide)
        · exact absurd h4 (h3 j h1 h2)
  · rw [if_neg h, if_neg h]
    exact Ev.ifn h (Ev.now _)
end Go.Proofs.Ytoikiefegkgedaa.Pure
