/- Codes the other way round, plainly. -/
import Derived.Test.YtoikiefegkgedaaPureCgo
import Derived.Test.YtoikiefegkgedaaPax1
import Derived.Test.YtoikiefegkgedaaKrA
set_option linter.unusedVariables false
set_option linter.unusedSimpArgs false
set_option linter.unusedSectionVars false
namespace Go.Proofs.Ytoikiefegkgedaa.Pure
open Go.RowKit Go.Proofs.YtoikiefegkgedaaW.PrintWords Go.Proofs.YtoikiefegkgedaaW.PrintMore Go.Proofs.Ytoikiefegkgedaa.P Go.Proofs.Ytoikiefegkgedaa.Pa Go.Proofs.Ytoikiefegkgedaa.Com Go.Proofs.Ytoikiefegkgedaa.Cn Go.Proofs.Ytoikiefegkgedaa.Hd
attribute [local irreducible] ord pos
/-- The first bits of a number, the other way round. -/
def T (c : Int) : Nat → Int
  | 0 => 0
  | i + 1 => 2 * T c i + c / 2 ^ i % 2
theorem T_bd (c : Int) (i : Nat) : 0 ≤ T c i ∧ T c i < 2 ^ i := by
  induction i with
  | zero => simp [T]
  | succ i ih =>
    have e : (2 : Int) ^ (i + 1) = 2 * 2 ^ i := by rw [Int.pow_succ, Int.mul_comm]
    simp only [T]
    rw [e]
    omega
theorem pow32 {i : Nat} (h : i ≤ 32) : (2 : Int) ^ i ≤ 4294967296 ∧ (1 : Int) ≤ 2 ^ i := by
  have : ∀ i : Nat, i ≤ 32 → (2 : Int) ^ i ≤ 4294967296 ∧ (1 : Int) ≤ 2 ^ i := by decide
  exact this i h
theorem or_bit {x b : Int} (h0 : 0 ≤ x) (h1 : x < 4294967296) (hb : b = 0 ∨ b = 1) : Go.bits .or .i64 (2 * x) b = 2 * x + b := by
  obtain ⟨n, rfl⟩ : ∃ n : Nat, x = n := ⟨x.toNat, by omega⟩
  obtain ⟨m, rfl, hm⟩ : ∃ m : Nat, b = m ∧ m < 2 := ⟨b.toNat, by omega, by omega⟩
  have := (bits_i64 (2 * n) m (by omega) (by omega)).2
  rw [show ((2 * n : Nat) : Int) = 2 * (n : Int) by omega] at this
  rw [this, or_join (2 * n) m 1 (by omega) (by omega)]
  omega
def turn (c n : Int) : Int := if n < 0 ∨ 32 < n then 0 else T c n.toNat
theorem turned_l0 (c : Int) (n : Nat) (hn : n ≤ 32) (d : Nat) : ∀ i, i + d = n → Ev (fun k => canon_Turned.l0 k (c / 2 ^ i) (T c i) (n : Int) (i : Int)) (T c n) := by
  induction d with
  | zero =>
    intro i hi
    have e : i = n := by omega
    subst e
    refine Ev.step (f := fun _ => some (T c i)) (fun k => ?_) (Ev.now _)
    simp only [canon_Turned.l0]
    rw [if_neg (by omega)]
  | succ d ih =>
    intro i hi
    have hb := T_bd c i
    have hp := pow32 (show i ≤ 32 by omega)
    refine Ev.step (fun k => ?_) (ih (i + 1) (by omega))
    simp only [canon_Turned.l0]
    have e1 : c / 2 ^ i / 2 = c / 2 ^ (i + 1) := by rw [Int.ediv_ediv_of_nonneg (by omega), Int.pow_succ]
    rw [if_pos (by omega), and_one, w64 (x := (i : Int) + 1) (by omega) (by omega), w64 (x := T c i * 2) (by omega) (by omega), Int.mul_comm (T c i) 2, or_bit hb.1 (by omega) (by omega), e1]
    rfl
theorem turned_ev (c n : Int) : Ev (fun k => canon_Turned.f k c n) (turn c n) := by
  unfold turn
  by_cases h : n < 0 ∨ 32 < n
  · rw [if_pos h]
    refine Ev.step (f := fun _ => some 0) (fun k => ?_) (Ev.now _)
    unfold canon_Turned.f
    by_cases h1 : n < 0
    · rw [if_pos h1]; simp only [canon_Turned.j0]; rfl
    · rw [if_neg h1]; simp only [canon_Turned.j0]; rw [if_pos (by simp; omega)]
  · rw [if_neg h]
    obtain ⟨m, rfl⟩ : ∃ m : Nat, n = m := ⟨n.toNat, by omega⟩
    have hl := turned_l0 c m (by omega) m 0 (by omega)
    rw [Int.pow_zero, Int.ediv_one] at hl
    refine Ev.step (fun k => ?_) hl
    unfold canon_Turned.f
    rw [if_neg (by omega)]
    simp only [canon_Turned.j0]
    rw [if_neg (by simp; omega)]
    rfl
/-! ### turned twice -/
theorem T_bv (c : Nat) (i : Nat) : T (c : Int) i = (bv ((nbits i c).reverse) : Int) := by
  induction i with
  | zero => rfl
  | succ i ih =>
    have e1 : nbits (i + 1) c = nbits i c ++ nbits 1 (c / 2 ^ i) := nbits_add i 1 c
    have e2 : nbits 1 (c / 2 ^ i) = [c / 2 ^ i % 2 == 1] := rfl
    rw [e1, e2, List.reverse_append]
    simp only [T, List.reverse_cons, List.reverse_nil, List.nil_append, List.cons_append]
    rw [ih]
    have e3 : ((c : Int) / 2 ^ i % 2) = ((c / 2 ^ i % 2 : Nat) : Int) := by simp
    rw [e3]
    simp only [bv]
    by_cases h : c / 2 ^ i % 2 = 1
    · rw [h]; simp; omega
    · have h0 : c / 2 ^ i % 2 = 0 := by omega
      rw [h0]; simp
theorem T_twice (c : Nat) (n : Nat) (h : c < 2 ^ n) : T (T (c : Int) n) n = (c : Int) := by
  rw [T_bv c n, T_bv]
  have e : nbits n (bv (nbits n c).reverse) = (nbits n c).reverse := by
    refine bv_inj (by rw [nbits_length, List.length_reverse, nbits_length]) ?_
    rw [bv_nbits, Nat.mod_eq_of_lt]
    have := bv_lt (nbits n c).reverse
    rw [List.length_reverse, nbits_length] at this
    exact this
  rw [e, List.reverse_reverse, bv_nbits, Nat.mod_eq_of_lt h]
theorem mask32 (c : Int) (h0 : 0 ≤ c) (h1 : c ≤ 4294967295) (k : Nat) (hk : k ≤ 32) : ∃ x : Nat, x < 2 ^ k ∧ Go.bits .and .i64 (wrap64 c) (wrap64 (shl .i64 1 (k : Int) - 1)) = (x : Int) := by
  obtain ⟨n, rfl⟩ : ∃ n : Nat, c = n := ⟨c.toNat, by omega⟩
  have hp := pow32 hk
  have hp2 : ((2 ^ k : Nat) : Int) = 2 ^ k := by simp
  have hp3 := Nat.two_pow_pos k
  have e1 : shl .i64 1 (k : Int) = 2 ^ k := by rw [shl64 (by omega) (by omega), Int.toNat_natCast]
  have e2 : ((2 : Int) ^ k - 1) = ((2 ^ k - 1 : Nat) : Int) := by omega
  rw [w64 (x := (n : Int)) (by omega) (by omega), e1, w64 (x := (2 : Int) ^ k - 1) (by omega) (by omega), e2, (bits_i64 n (2 ^ k - 1) (by omega) (by omega)).1, Nat.and_two_pow_sub_one_eq_mod]
  exact ⟨n % 2 ^ k, Nat.mod_lt _ hp3, rfl⟩
end Go.Proofs.Ytoikiefegkgedaa.Pure
/- Lengths that may be, with a greater limit. -/
namespace Go.Proofs.Ytoikiefegkgedaa.Pure
open Go.RowKit Go.Proofs.YtoikiefegkgedaaW.PrintWords Go.Proofs.YtoikiefegkgedaaW.PrintMore Go.Proofs.Ytoikiefegkgedaa.P Go.Proofs.Ytoikiefegkgedaa.Com
theorem chk_zero {l : List Int} {n : Int} (h : chk l n = 0) : (1 ≤ n ∧ n ≤ 16) ∧ l.length ≤ 1024 ∧ l.all (okB n) = true ∧ Us l ≠ 0 ∧ (Us l = 1 → Su 1 l = 1) ∧ (Us l ≠ 1 → Su n l = 2 ^ n.toNat) := by
  unfold chk at h
  by_cases h1 : n < 1 ∨ 16 < n
  · rw [if_pos h1] at h; omega
  rw [if_neg h1] at h
  by_cases h2 : 1024 < l.length
  · rw [if_pos h2] at h; omega
  rw [if_neg h2] at h
  by_cases h3 : l.all (fun x => decide (0 ≤ x ∧ x ≤ n)) = false
  · rw [if_pos h3] at h; omega
  rw [if_neg h3] at h
  by_cases h4 : Us l = 0
  · rw [if_pos h4] at h; omega
  rw [if_neg h4] at h
  refine ⟨by omega, by omega, ?_, h4, ?_, ?_⟩
  · show l.all (fun x => decide (0 ≤ x ∧ x ≤ n)) = true
    simpa using h3
  · intro u
    rw [if_pos u] at h
    by_cases s : Su 1 l = 1
    · exact s
    · rw [if_neg s] at h; omega
  · intro u
    rw [if_neg u] at h
    by_cases s : Su n l = 2 ^ n.toNat
    · exact s
    · rw [if_neg s] at h; omega

theorem chk_make {l : List Int} {n : Int} (h1 : 1 ≤ n ∧ n ≤ 16) (h2 : l.length ≤ 1024) (h3 : l.all (okB n) = true) (h4 : Us l ≠ 0) : chk l n = if Us l = 1 then (if Su 1 l = 1 then 0 else 6) else if Su n l = 2 ^ n.toNat then 0 else 6 := by
  unfold chk
  have h3' : l.all (fun x => decide (0 ≤ x ∧ x ≤ n)) = true := h3
  rw [if_neg (by omega), if_neg (by omega), h3', if_neg (by simp), if_neg h4]

theorem wt_up {n x : Int} (h1 : 1 ≤ n) (h2 : n ≤ 15) (hx : x ≤ n) : wt (n + 1) x = 2 * wt n x := by
  unfold wt
  by_cases h : 1 ≤ x
  · rw [if_pos (by omega), if_pos (by omega)]
    have e : (n + 1 - x).toNat = (n - x).toNat + 1 := by omega
    rw [e, Int.pow_succ]
    omega
  · rw [if_neg (by omega), if_neg (by omega)]
    rfl
theorem Su_up (l : List Int) {n : Int} (h1 : 1 ≤ n) (h2 : n ≤ 15) (h : l.all (okB n) = true) : Su (n + 1) l = 2 * Su n l := by
  induction l with
  | nil => rfl
  | cons x t ih =>
    rw [List.all_cons, Bool.and_eq_true] at h
    have hx := h.1
    simp [okB] at hx
    rw [Su_cons, Su_cons, ih h.2, wt_up h1 h2 hx.2]
    omega

theorem chk_up {l : List Int} {n : Int} (h : chk l n = 0) (hn : n < 16) : chk l (n + 1) = 0 := by
  obtain ⟨h1, h2, h3, h4, h5, h6⟩ := chk_zero h
  have h3' : l.all (okB (n + 1)) = true := by
    rw [List.all_eq_true] at h3 ⊢
    intro x hx
    have := h3 x hx
    simp [okB] at this ⊢
    omega
  rw [chk_make (by omega) h2 h3' h4]
  by_cases u : Us l = 1
  · rw [if_pos u, if_pos (h5 u)]
  · rw [if_neg u, Su_up l h1.1 (by omega) h3, h6 u]
    have e : (n + 1).toNat = n.toNat + 1 := by omega
    rw [e, Int.pow_succ, if_pos (by omega)]

end Go.Proofs.Ytoikiefegkgedaa.Pure
/- Codes by a table: what stands at the next bits is what bit by bit finds. -/
namespace Go.Proofs.Ytoikiefegkgedaa.Pure
open Go.RowKit Go.Proofs.YtoikiefegkgedaaW.PrintWords Go.Proofs.YtoikiefegkgedaaW.PrintMore Go.Proofs.Ytoikiefegkgedaa.P Go.Proofs.Ytoikiefegkgedaa.Com Go.Proofs.Ytoikiefegkgedaa.Cn Go.Proofs.Ytoikiefegkgedaa.Hd
attribute [local irreducible] ord pos code
theorem mb_nbits (c n : Nat) : mb c n = (nbits n c).reverse := by
  induction n with
  | zero => rfl
  | succ n ih => rw [nbits_snoc, List.reverse_append, mb, ih]; rfl
theorem T_mb (c n : Nat) : T (c : Int) n = (bv (mb c n) : Int) := by rw [T_bv, mb_nbits]
theorem mb_bd (c n : Nat) : bv (mb c n) < 2 ^ n := by have := bv_lt (mb c n); rwa [mb_length] at this
/-- A symbol's code stands at the lowest bits. -/
def hits (l : List Int) (i x : Nat) : Prop := 0 < l.getD i 0 ∧ x % 2 ^ ln l i = bv (mb (code l i) (ln l i))
instance (l : List Int) (i x : Nat) : Decidable (hits l i x) := inferInstanceAs (Decidable (_ ∧ _))
def tv (l : List Int) : Nat → Nat → Nat × Nat
  | 0, _ => (0, 0)
  | m + 1, x => if hits l m x then (m, ln l m) else tv l m x
theorem hits_pre {l : List Int} (h : chk l 16 = 0) {i j x : Nat} (hi : i < l.length) (hj : j < l.length) (h1 : hits l i x) (h2 : hits l j x) (hle : ln l i ≤ ln l j) : i = j := by
  have hp : mb (code l i) (ln l i) <+: mb (code l j) (ln l j) := by
    have e : (mb (code l j) (ln l j)).take (ln l i) = mb (code l i) (ln l i) := by
      refine bv_inj (by rw [List.length_take, mb_length, mb_length]; omega) ?_
      rw [bv_take, ← h1.2, ← h2.2, Nat.mod_mod_of_dvd _ (Nat.pow_dvd_pow 2 hle)]
    rw [← e]
    exact List.take_prefix _ _
  obtain ⟨t, ht⟩ := hp
  have a := sdm_code h hi h1.1 t
  have b := sdm_code h hj h2.1 []
  rw [List.append_nil, ← ht, a] at b
  injection b with b1 _
  exact Int.ofNat.inj b1
theorem hits_one {l : List Int} (h : chk l 16 = 0) {i j x : Nat} (hi : i < l.length) (hj : j < l.length) (h1 : hits l i x) (h2 : hits l j x) : i = j := by
  rcases Nat.le_total (ln l i) (ln l j) with hle | hle
  · exact hits_pre h hi hj h1 h2 hle
  · exact (hits_pre h hj hi h2 h1 hle).symm
theorem tv_none {l : List Int} {x : Nat} (m : Nat) (hno : ∀ i, i < m → ¬ hits l i x) : tv l m x = (0, 0) := by
  induction m with
  | zero => rfl
  | succ m ih => rw [tv, if_neg (hno m (by omega)), ih (fun i hi => hno i (by omega))]
theorem tv_hit {l : List Int} (h : chk l 16 = 0) {i x : Nat} (hi : i < l.length) (h1 : hits l i x) (m : Nat) (hm : m ≤ l.length) (him : i < m) : tv l m x = (i, ln l i) := by
  induction m with
  | zero => omega
  | succ m ih =>
    rw [tv]
    by_cases h2 : hits l m x
    · have := hits_one h hi (by omega) h1 h2
      subst this
      rw [if_pos h2]
    · rw [if_neg h2]
      by_cases e : i = m
      · subst e; exact absurd h1 h2
      · exact ih (by omega) (by omega)
theorem some_code {l : List Int} (h : chk l 16 = 0) (hK : K (cn l) 17 = 65536) {v : Nat} (hv : v < 65536) (d : Nat) : ∀ j, j + d = 16 → F (cn l) j + cn l j ≤ v / 2 ^ (16 - j) → ∃ i, i < l.length ∧ 0 < l.getD i 0 ∧ mb (code l i) (ln l i) <+: mb v 16 := by
  have hl := (chk_len h).2
  induction d with
  | zero =>
    intro j hj h1
    have ej : j = 16 := by omega
    subst ej
    have e1 := F_K (cn l) 16 (by omega)
    have e2 : K (cn l) 17 = K (cn l) 16 + cn l 16 * 2 ^ 0 := rfl
    rw [Nat.sub_self, Nat.pow_zero, Nat.mul_one] at e1
    rw [Nat.pow_zero, Nat.mul_one] at e2
    rw [Nat.sub_self, Nat.pow_zero, Nat.div_one] at h1
    omega
  | succ d ih =>
    intro j hj h1
    have eF : F (cn l) (j + 1) = 2 * (F (cn l) j + cn l j) := by rw [F]; omega
    have ev : v / 2 ^ (16 - j) = v / 2 ^ (16 - (j + 1)) / 2 := by
      rw [Nat.div_div_eq_div_mul, ← Nat.pow_succ]
      congr 2
      omega
    by_cases hb : v / 2 ^ (16 - (j + 1)) < F (cn l) (j + 1) + cn l (j + 1)
    · obtain ⟨i, i1, i2, i3, i4, _⟩ := sym_of hl (show j + 1 ≤ 16 by omega) (v := v / 2 ^ (16 - (j + 1))) (by omega) hb
      refine ⟨i, i1, i2, ?_⟩
      rw [i3, i4]
      have := mb_add v (j + 1) (16 - (j + 1))
      rw [show j + 1 + (16 - (j + 1)) = 16 by omega] at this
      rw [this]
      exact List.prefix_append _ _
    · exact ih (j + 1) (by omega) (by omega)
theorem begins_hits {l : List Int} {i m : Nat} (h0 : 0 < l.getD i 0) (hm : ln l i ≤ m) {row : List Bool} (hp : mb (code l i) (ln l i) <+: row) : hits l i (bv row % 2 ^ m) := by
  refine ⟨h0, ?_⟩
  rw [Nat.mod_mod_of_dvd _ (Nat.pow_dvd_pow 2 hm), ← bv_take]
  have e := List.prefix_iff_eq_take.1 hp
  rw [mb_length] at e
  rw [← e]
theorem look_gap {l : List Int} (h : chk l 16 = 0) {m : Nat} (hm : m ≤ 16) (hlm : ∀ i, i < l.length → ln l i ≤ m) {row : List Bool} (hno : ∀ i, i < l.length → ¬ hits l i (bv row % 2 ^ m)) (hr : row ≠ []) (i : Nat) (hi : i < l.length) (h0 : 0 < l.getD i 0) : ¬ row <+: mb (code l i) (ln l i) := by
  intro hp
  rcases full h with ⟨_, _, _, hK⟩ | hK
  · have hs := K_S 17 (by omega) hK
    have h1 : ln l i = 1 := by
      have := ln_pos h0
      apply Nat.le_antisymm _ this
      apply Nat.le_of_not_lt
      intro hgt
      have g1 := S_mono (cn l) (show 2 ≤ ln l i by omega)
      have g2 := S_step (c := cn l) (show ln l i < 17 by have := (ln16 (chk_len h).2 hi).1; omega)
      have g3 := rank_lt hi h0
      omega
    have hlen : 0 < row.length := List.length_pos_iff.2 hr
    have e : row = mb (code l i) (ln l i) := hp.eq_of_length_le (by rw [mb_length]; omega)
    exact hno i hi (begins_hits h0 (hlm i hi) (by rw [← e]; exact List.prefix_refl _))
  · obtain ⟨y, hy⟩ : ∃ y, bv row = y := ⟨_, rfl⟩
    rw [hy] at hno
    have hlr : (nbits 16 y).reverse.length = 16 := by rw [List.length_reverse, nbits_length]
    have hv : bv (nbits 16 y).reverse < 65536 := by
      have := bv_lt (nbits 16 y).reverse
      rw [hlr] at this
      exact this
    obtain ⟨j, j1, j2, j3⟩ := some_code h hK hv 16 0 (by omega) (by simp [F, cn_zero])
    rw [mb_nbits (bv (nbits 16 y).reverse)] at j3
    have e2 := nbits_bv (nbits 16 y).reverse
    rw [hlr] at e2
    rw [e2, List.reverse_reverse] at j3
    refine hno j j1 ⟨j2, ?_⟩
    have e3 := List.prefix_iff_eq_take.1 j3
    have hj := (ln16 (chk_len h).2 j1).1
    rw [e3, mb_length, bv_take, bv_nbits, Nat.mod_mod_of_dvd _ (Nat.pow_dvd_pow 2 (hlm j j1)), Nat.mod_mod_of_dvd _ (Nat.pow_dvd_pow 2 hj)]
/-- What a table says of the next bits. -/
def lookE (e : Nat × Nat) (left : Nat) : Int × Int × Int := if e.2 = 0 then (0, 0, if left = 0 then 3 else 4) else if left < e.2 then (0, 0, 3) else ((e.1 : Int), (e.2 : Int), 0)
theorem look_dec {l : List Int} (h : chk l 16 = 0) {m : Nat} (hm : m ≤ 16) (hlm : ∀ i, i < l.length → ln l i ≤ m) (row : List Bool) : lookE (tv l l.length (bv row % 2 ^ m)) row.length = decP l row := by
  unfold decP
  rw [if_pos h]
  have miss : ∀ hno : (∀ i, i < l.length → 0 < l.getD i 0 → ¬ mb (code l i) (ln l i) <+: row), (sdm l 16 1 0 row = (0, 0, 3) ∧ ∃ i, i < l.length ∧ 0 < l.getD i 0 ∧ row <+: mb (code l i) (ln l i)) ∨ (sdm l 16 1 0 row = (0, 0, 4) ∧ ∀ i, i < l.length → 0 < l.getD i 0 → ¬ row <+: mb (code l i) (ln l i)) :=
    fun hno => sdm_miss h row hno 16 0 0 row (by omega) (by rw [mb]; rfl) (by decide) (by simp [F, cn_zero]) (fun h => by omega)
  by_cases hx : ∃ i, i < l.length ∧ hits l i (bv row % 2 ^ m)
  · obtain ⟨i, hi, hh⟩ := hx
    rw [tv_hit h hi hh _ (Nat.le_refl _) hi]
    have hp := ln_pos hh.1
    have hv := hh.2
    rw [Nat.mod_mod_of_dvd _ (Nat.pow_dvd_pow 2 (hlm i hi))] at hv
    unfold lookE
    rw [if_neg (by show ¬ ln l i = 0; omega)]
    by_cases hs : row.length < ln l i
    · rw [if_pos hs]
      have hpre : row <+: mb (code l i) (ln l i) := by
        have e : (mb (code l i) (ln l i)).take row.length = row := by
          refine bv_inj (by rw [List.length_take, mb_length]; omega) ?_
          rw [bv_take, ← hv, Nat.mod_mod_of_dvd _ (Nat.pow_dvd_pow 2 (Nat.le_of_lt hs)), Nat.mod_eq_of_lt (bv_lt row)]
        rw [← e]
        exact List.take_prefix _ _
      rcases miss (fun j hj h0 hjp => by
        have hjh := begins_hits h0 (hlm j hj) hjp
        have := hits_one h hi hj hh hjh
        subst this
        have := hjp.length_le
        rw [mb_length] at this
        omega) with ⟨e, _⟩ | ⟨_, h3⟩
      · exact e.symm
      · exact absurd hpre (h3 i hi hh.1)
    · rw [if_neg hs]
      have e : row.take (ln l i) = mb (code l i) (ln l i) := by
        refine bv_inj (by rw [List.length_take, mb_length]; omega) ?_
        rw [bv_take]
        exact hv
      have e2 := sdm_code h hi hh.1 (row.drop (ln l i))
      rw [← e, List.take_append_drop] at e2
      exact e2.symm
  · have hno : ∀ i, i < l.length → ¬ hits l i (bv row % 2 ^ m) := fun i hi hh => hx ⟨i, hi, hh⟩
    rw [tv_none _ hno]
    unfold lookE
    rw [if_pos rfl]
    have hno2 : ∀ i, i < l.length → 0 < l.getD i 0 → ¬ mb (code l i) (ln l i) <+: row := fun i hi h0 hp => hno i hi (begins_hits h0 (hlm i hi) hp)
    by_cases hr : row = []
    · subst hr
      rw [if_pos List.length_nil]
      rcases miss hno2 with ⟨e, _⟩ | ⟨_, h3⟩
      · exact e.symm
      · obtain ⟨i, i1, i2, _⟩ := more h (kn := 0) (c := 0) (by omega) (by simp [F, cn_zero]) (by decide) (fun h => by omega)
        exact absurd (List.nil_prefix) (h3 i i1 i2)
    · rw [if_neg (fun e => hr (List.length_eq_zero_iff.1 e))]
      rcases miss hno2 with ⟨_, i, i1, i2, i3⟩ | ⟨e, _⟩
      · exact absurd i3 (look_gap h hm hlm hno hr i i1 i2)
      · exact e.symm
theorem chk_16 {l : List Int} (d : Nat) : ∀ n : Int, n + d = 16 → chk l n = 0 → chk l 16 = 0 := by
  induction d with
  | zero => intro n hn h; rw [show n = 16 by omega] at h; exact h
  | succ d ih => intro n hn h; exact ih (n + 1) (by omega) (chk_up h (by omega))
theorem chk_lim {l : List Int} {n : Int} (h : chk l n = 0) : 1 ≤ n ∧ n ≤ 16 ∧ chk l 16 = 0 ∧ ∀ i, i < l.length → ln l i ≤ n.toNat := by
  obtain ⟨h1, _, h3, _⟩ := chk_zero h
  refine ⟨h1.1, h1.2, chk_16 (16 - n).toNat n (by omega) h, fun i hi => ?_⟩
  have := List.all_eq_true.1 h3 _ (List.getElem_mem hi)
  simp [okB] at this
  have e : l.getD i 0 = l[i] := by rw [List.getD_eq_getElem?_getD, List.getElem?_eq_getElem hi]; rfl
  unfold ln
  rw [e]
  omega
/-- The entries while a symbol's are put. -/
def tin (l : List Int) (i X x : Nat) : Nat × Nat := if hits l i x ∧ x < X then (i, ln l i) else tv l i x
theorem tin_start (l : List Int) (i x : Nat) : tin l i (bv (mb (code l i) (ln l i))) x = tv l i x := by
  unfold tin
  rw [if_neg]
  rintro ⟨h1, h2⟩
  have := h1.2
  have := Nat.mod_le x (2 ^ ln l i)
  omega
theorem tin_step {l : List Int} {i X : Nat} (h0 : 0 < l.getD i 0) (hX : X % 2 ^ ln l i = bv (mb (code l i) (ln l i))) (x : Nat) : (if x = X then (i, ln l i) else tin l i X x) = tin l i (X + 2 ^ ln l i) x := by
  have hp := Nat.two_pow_pos (ln l i)
  unfold tin
  by_cases e : x = X
  · subst e
    rw [if_pos rfl, if_pos ⟨⟨h0, hX⟩, by omega⟩]
  · rw [if_neg e]
    by_cases hh : hits l i x
    · by_cases hlt : x < X
      · rw [if_pos ⟨hh, hlt⟩, if_pos ⟨hh, by omega⟩]
      · rw [if_neg (fun h => hlt h.2), if_neg]
        rintro ⟨_, h2⟩
        have h3 := hh.2
        rw [← hX] at h3
        have a := Nat.div_add_mod x (2 ^ ln l i)
        have b := Nat.div_add_mod X (2 ^ ln l i)
        rw [h3] at a
        have c1 : 2 ^ ln l i * (X / 2 ^ ln l i) < 2 ^ ln l i * (x / 2 ^ ln l i) := by omega
        have c2 : 2 ^ ln l i * (x / 2 ^ ln l i) < 2 ^ ln l i * (X / 2 ^ ln l i + 1) := by rw [Nat.mul_add, Nat.mul_one]; omega
        have d1 := Nat.lt_of_mul_lt_mul_left c1
        have d2 := Nat.lt_of_mul_lt_mul_left c2
        omega
    · rw [if_neg (fun h => hh h.1), if_neg (fun h => hh h.1)]
theorem tin_end {l : List Int} {i M X x : Nat} (h : M ≤ X) (hx : x < M) : tin l i X x = tv l (i + 1) x := by
  unfold tin
  rw [tv]
  by_cases hh : hits l i x
  · rw [if_pos hh, if_pos ⟨hh, by omega⟩]
  · rw [if_neg hh, if_neg (fun h => hh h.1)]
theorem tv_skip {l : List Int} {i x : Nat} (h0 : ¬ 0 < l.getD i 0) : tv l i x = tv l (i + 1) x := by
  rw [tv, if_neg (fun h => h0 h.1)]
def errN (l : List Int) (m : Int) : Int := if m < 1 ∨ 15 < m then 1 else chk l m
end Go.Proofs.Ytoikiefegkgedaa.Pure
/- Codes by two tables, plainly. -/
namespace Go.Proofs.Ytoikiefegkgedaa.Pure
open Go.RowKit Go.Proofs.YtoikiefegkgedaaW.PrintWords Go.Proofs.YtoikiefegkgedaaW.PrintMore Go.Proofs.Ytoikiefegkgedaa.P Go.Proofs.Ytoikiefegkgedaa.Com Go.Proofs.Ytoikiefegkgedaa.Cn Go.Proofs.Ytoikiefegkgedaa.Hd
attribute [local irreducible] ord pos code mb
/-- A code, the other way round. -/
def tc (l : List Int) (j : Nat) : Nat := bv (mb (code l j) (ln l j))
/-- Of the codes that the first table has, and of the others: the last one that stands at these bits. -/
def sv (l : List Int) (root : Nat) : Nat → Nat → Nat × Nat
  | 0, _ => (0, 0)
  | m + 1, x => if ln l m ≤ root ∧ hits l m x then (m, ln l m) else sv l root m x
def lv (l : List Int) (root : Nat) : Nat → Nat → Nat × Nat
  | 0, _ => (0, 0)
  | m + 1, x => if root < ln l m ∧ hits l m x then (m, ln l m) else lv l root m x
/-- The beginnings of the longer codes, in the order in which they are met. -/
def Hl (l : List Int) (root : Nat) : Nat → List Nat
  | 0 => []
  | m + 1 => if root < ln l m ∧ tc l m % 2 ^ root ∉ Hl l root m then Hl l root m ++ [tc l m % 2 ^ root] else Hl l root m
abbrev Ent := Nat × Nat × Bool
def al (l : List Int) (root R P : Nat) (i x : Nat) : Ent :=
  if x < R then (if (sv l root i x).2 = 0 then (if x ∈ Hl l root i then (R + (Hl l root i).idxOf x * P, 0, true) else (0, 0, false)) else ((sv l root i x).1, (sv l root i x).2, false))
  else ((lv l root i ((Hl l root i).getD ((x - R) / P) 0 + R * ((x - R) % P))).1, (lv l root i ((Hl l root i).getD ((x - R) / P) 0 + R * ((x - R) % P))).2, false)
section
variable {l : List Int} {root : Nat}
theorem sv_or (m x : Nat) : (sv l root m x = (0, 0) ∧ ∀ j, j < m → ln l j ≤ root → ¬ hits l j x) ∨ ∃ j, j < m ∧ ln l j ≤ root ∧ hits l j x ∧ sv l root m x = (j, ln l j) := by
  induction m with
  | zero => exact .inl ⟨rfl, fun j hj => by omega⟩
  | succ m ih =>
    rw [sv]
    by_cases h : ln l m ≤ root ∧ hits l m x
    · rw [if_pos h]; exact .inr ⟨m, by omega, h.1, h.2, rfl⟩
    · rw [if_neg h]
      rcases ih with ⟨h1, h2⟩ | ⟨j, h1, h2, h3, h4⟩
      · refine .inl ⟨h1, fun j hj hr hh => ?_⟩
        by_cases e : j = m
        · subst e; exact h ⟨hr, hh⟩
        · exact h2 j (by omega) hr hh
      · exact .inr ⟨j, by omega, h2, h3, h4⟩
theorem lv_or (m x : Nat) : (lv l root m x = (0, 0) ∧ ∀ j, j < m → root < ln l j → ¬ hits l j x) ∨ ∃ j, j < m ∧ root < ln l j ∧ hits l j x ∧ lv l root m x = (j, ln l j) := by
  induction m with
  | zero => exact .inl ⟨rfl, fun j hj => by omega⟩
  | succ m ih =>
    rw [lv]
    by_cases h : root < ln l m ∧ hits l m x
    · rw [if_pos h]; exact .inr ⟨m, by omega, h.1, h.2, rfl⟩
    · rw [if_neg h]
      rcases ih with ⟨h1, h2⟩ | ⟨j, h1, h2, h3, h4⟩
      · refine .inl ⟨h1, fun j hj hr hh => ?_⟩
        by_cases e : j = m
        · subst e; exact h ⟨hr, hh⟩
        · exact h2 j (by omega) hr hh
      · exact .inr ⟨j, by omega, h2, h3, h4⟩
theorem Hl_lt (m : Nat) : ∀ h ∈ Hl l root m, h < 2 ^ root := by
  induction m with
  | zero => intro h hh; simp [Hl] at hh
  | succ m ih =>
    intro h hh
    rw [Hl] at hh
    split at hh
    · rcases List.mem_append.1 hh with h1 | h1
      · exact ih h h1
      · rw [List.mem_singleton.1 h1]; exact Nat.mod_lt _ (Nat.two_pow_pos _)
    · exact ih h hh
theorem Hl_nodup (m : Nat) : (Hl l root m).Nodup := by
  induction m with
  | zero => simp [Hl]
  | succ m ih =>
    rw [Hl]
    split
    · rename_i h
      rw [List.nodup_append]
      refine ⟨ih, by simp, fun a ha b hb => ?_⟩
      rw [List.mem_singleton.1 hb]
      exact fun e => h.2 (e ▸ ha)
    · exact ih
theorem mem_Hl (m h : Nat) : h ∈ Hl l root m ↔ ∃ j, j < m ∧ root < ln l j ∧ tc l j % 2 ^ root = h := by
  induction m with
  | zero => simp [Hl]
  | succ m ih =>
    rw [Hl]
    constructor
    · intro hh
      split at hh
      · rename_i hc
        rcases List.mem_append.1 hh with h1 | h1
        · obtain ⟨j, a, b, c⟩ := ih.1 h1
          exact ⟨j, by omega, b, c⟩
        · exact ⟨m, by omega, hc.1, (List.mem_singleton.1 h1).symm⟩
      · obtain ⟨j, a, b, c⟩ := ih.1 hh
        exact ⟨j, by omega, b, c⟩
    · rintro ⟨j, a, b, c⟩
      by_cases e : j = m
      · subst e
        split
        · rw [← c]; simp
        · rename_i hc
          by_cases hm : tc l j % 2 ^ root ∈ Hl l root j
          · rw [← c]; exact hm
          · exact absurd ⟨b, hm⟩ hc
      · have := ih.2 ⟨j, by omega, b, c⟩
        split
        · exact List.mem_append_left _ this
        · exact this
theorem hits_self {j : Nat} (h0 : 0 < l.getD j 0) : hits l j (tc l j) := ⟨h0, Nat.mod_eq_of_lt (mb_bd _ _)⟩
theorem hits_low {j x : Nat} (hr : ln l j ≤ root) : hits l j (x % 2 ^ root) ↔ hits l j x := by
  unfold hits
  rw [Nat.mod_mod_of_dvd _ (Nat.pow_dvd_pow 2 hr)]
theorem hits_head {j x : Nat} (hr : root ≤ ln l j) (h : hits l j x) : tc l j % 2 ^ root = x % 2 ^ root := by
  unfold tc
  rw [← h.2, Nat.mod_mod_of_dvd _ (Nat.pow_dvd_pow 2 hr)]
/-- No code of the first table stands where a longer one begins. -/
theorem noconf (h : chk l 16 = 0) {i j x : Nat} (hi : i < l.length) (hj : j < l.length) (hir : ln l i ≤ root) (hjr : root < ln l j) (h1 : hits l i x) (h2 : tc l j % 2 ^ root = x) : False := by
  have h0 : 0 < l.getD j 0 := by have := (ln16 (chk_len h).2 hj).2; omega
  rw [← h2, hits_low hir] at h1
  have := hits_one h hi hj h1 (hits_self h0)
  subst this
  omega
/-- What both tables say is what one table says. -/
theorem two_one (h : chk l 16 = 0) {R P X : Nat} (hR : R = 2 ^ root) (hP : 0 < P) (hX : X < R * P) :
    let e := al l root R P l.length (X % R)
    (if e.2.2 then (let e2 := al l root R P l.length (e.1 + X / R); (e2.1, e2.2.1)) else (e.1, e.2.1)) = tv l l.length X ∧ (e.2.2 = true → e.1 + X / R < R + (Hl l root l.length).length * P) := by
  have hRp : 0 < R := by rw [hR]; exact Nat.two_pow_pos _
  have hm := Nat.mod_lt X hRp
  have hy : X / R < P := Nat.div_lt_of_lt_mul hX
  have hX2 : X % R + R * (X / R) = X := Nat.mod_add_div X R
  intro e
  have he : e = al l root R P l.length (X % R) := rfl
  unfold al at he
  rw [if_pos hm] at he
  rcases sv_or (l := l) (root := root) l.length (X % R) with ⟨hs, hno⟩ | ⟨j, hj, hjr, hh, hs⟩
  · rw [hs, if_pos rfl] at he
    have hno2 : ∀ j, j < l.length → ln l j ≤ root → ¬ hits l j X := fun j hj hr hh => hno j hj hr (by rw [hR]; exact (hits_low hr).2 hh)
    by_cases hmem : X % R ∈ Hl l root l.length
    · rw [if_pos hmem] at he
      have hk := List.idxOf_lt_length_of_mem hmem
      have hge : (Hl l root l.length).getD ((Hl l root l.length).idxOf (X % R)) 0 = X % R := by
        rw [List.getD_eq_getElem?_getD, List.getElem?_eq_getElem hk, List.getElem_idxOf]; rfl
      obtain ⟨k, hkk⟩ : ∃ k, (Hl l root l.length).idxOf (X % R) = k := ⟨_, rfl⟩
      rw [hkk] at he hk hge
      rw [he]
      simp only [if_true]
      have e1 : R + k * P + X / R - R = P * k + X / R := by rw [Nat.mul_comm k P, Nat.add_assoc, Nat.add_sub_cancel_left]
      have e2 : (P * k + X / R) / P = k := by rw [Nat.mul_add_div hP, Nat.div_eq_of_lt hy, Nat.add_zero]
      have e3 : (P * k + X / R) % P = X / R := by rw [Nat.mul_add_mod, Nat.mod_eq_of_lt hy]
      constructor
      · unfold al
        rw [if_neg (by rw [Nat.add_assoc]; exact Nat.not_lt.2 (Nat.le_add_right _ _)), e1, e2, e3, hge, hX2]
        rcases lv_or (l := l) (root := root) l.length X with ⟨hs2, hno3⟩ | ⟨j, hj, hjr, hh, hs2⟩
        · rw [hs2, tv_none]
          intro j hj hh
          by_cases hr : ln l j ≤ root
          · exact hno2 j hj hr hh
          · exact hno3 j hj (by omega) hh
        · rw [hs2, tv_hit h hj hh _ (Nat.le_refl _) hj]
      · intro _
        have : (k + 1) * P ≤ (Hl l root l.length).length * P := Nat.mul_le_mul_right _ hk
        rw [Nat.add_mul, Nat.one_mul] at this
        rw [Nat.add_assoc]
        exact Nat.add_lt_add_left (Nat.lt_of_lt_of_le (Nat.add_lt_add_left hy _) this) _
    · rw [if_neg hmem] at he
      rw [he]
      refine ⟨?_, by simp⟩
      rw [tv_none]
      · rfl
      intro j hj hh
      by_cases hr : ln l j ≤ root
      · exact hno2 j hj hr hh
      · exact hmem ((mem_Hl _ _).2 ⟨j, hj, by omega, by rw [hR]; exact hits_head (by omega) hh⟩)
  · have hp := Pure.ln_pos hh.1
    rw [hs, if_neg (by show ¬ ln l j = 0; omega)] at he
    rw [he]
    refine ⟨?_, by simp⟩
    rw [hR] at hh
    rw [tv_hit h hj ((hits_low hjr).1 hh) _ (Nat.le_refl _) hj]
    rfl
end
end Go.Proofs.Ytoikiefegkgedaa.Pure
