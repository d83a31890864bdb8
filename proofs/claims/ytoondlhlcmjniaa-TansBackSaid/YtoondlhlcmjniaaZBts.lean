/- Bits, lowest first, and numbers: this session's own lemmas (no printed function in sight). -/
import Derived.Test.YtoondlhlcmjniaaZByt
set_option linter.unusedVariables false
set_option linter.unusedSimpArgs false
set_option linter.unusedSectionVars false
namespace Go.Proofs.Ytoondlhlcmjniaa.Com
open Go.RowKit Go.Proofs.YtoondlhlcmjniaaW.PrintWords Go.Proofs.YtoondlhlcmjniaaW.PrintMore

/-- The number that bits are, the first one lowest. -/
def bv : List Bool → Nat
  | [] => 0
  | b :: t => b.toNat + 2 * bv t
/-- So many bits of a number. -/
def nbits : Nat → Nat → List Bool
  | 0, _ => []
  | n + 1, x => (x % 2 == 1) :: nbits n (x / 2)
/-- The number that bytes are, the first one lowest. -/
def vb : List Nat → Nat
  | [] => 0
  | b :: t => b + 256 * vb t

theorem nbits_length (n : Nat) : ∀ x, (nbits n x).length = n := by
  induction n with
  | zero => intro x; rfl
  | succ n ih => intro x; simp [nbits, ih]
theorem bv_append (a b : List Bool) : bv (a ++ b) = bv a + 2 ^ a.length * bv b := by
  induction a with
  | nil => simp [bv]
  | cons x t ih =>
    simp only [List.cons_append, bv, List.length_cons, ih, Nat.pow_succ]
    rw [Nat.mul_add, ← Nat.mul_assoc, Nat.mul_comm 2 (2 ^ t.length)]
    omega
theorem bv_lt (l : List Bool) : bv l < 2 ^ l.length := by
  induction l with
  | nil => simp [bv]
  | cons b t ih =>
    simp only [bv, List.length_cons, Nat.pow_succ]
    have := b.toNat_lt
    omega
theorem bv_nbits (n : Nat) : ∀ x, bv (nbits n x) = x % 2 ^ n := by
  induction n with
  | zero => intro x; simp [nbits, bv, Nat.mod_one]
  | succ n ih =>
    intro x
    simp only [nbits, bv, ih]
    have h1 : x % 2 ^ (n + 1) = x % 2 + 2 * (x / 2 % 2 ^ n) := by
      rw [Nat.pow_succ, Nat.mul_comm, Nat.mod_mul]
    have h2 : (x % 2 == 1).toNat = x % 2 := by
      rcases Nat.mod_two_eq_zero_or_one x with h | h <;> rw [h] <;> rfl
    rw [h1, h2]
theorem nbits_bv (l : List Bool) : nbits l.length (bv l) = l := by
  induction l with
  | nil => rfl
  | cons b t ih =>
    simp only [List.length_cons, nbits, bv]
    have h1 : (b.toNat + 2 * bv t) / 2 = bv t := by have := b.toNat_lt; omega
    have h2 : (b.toNat + 2 * bv t) % 2 = b.toNat := by have := b.toNat_lt; omega
    rw [h1, h2, ih]
    cases b <;> rfl
theorem bv_inj {a b : List Bool} (hl : a.length = b.length) (h : bv a = bv b) : a = b := by
  rw [← nbits_bv a, ← nbits_bv b, hl, h]
theorem bv_take (l : List Bool) (n : Nat) : bv (l.take n) = bv l % 2 ^ n := by
  by_cases h : n ≤ l.length
  · have := bv_append (l.take n) (l.drop n)
    rw [List.take_append_drop] at this
    have hl := bv_lt (l.take n)
    rw [List.length_take_of_le h] at this hl
    rw [this, Nat.add_mul_mod_self_left, Nat.mod_eq_of_lt hl]
  · rw [List.take_of_length_le (by omega), Nat.mod_eq_of_lt]
    exact Nat.lt_of_lt_of_le (bv_lt l) (Nat.pow_le_pow_right (by omega) (by omega))
theorem bv_drop (l : List Bool) (n : Nat) : bv (l.drop n) = bv l / 2 ^ n := by
  by_cases h : n ≤ l.length
  · have := bv_append (l.take n) (l.drop n)
    rw [List.take_append_drop] at this
    have hl := bv_lt (l.take n)
    rw [List.length_take_of_le h] at this hl
    rw [this, Nat.add_mul_div_left _ _ (Nat.two_pow_pos n), Nat.div_eq_of_lt hl, Nat.zero_add]
  · rw [List.drop_of_length_le (by omega), Nat.div_eq_of_lt]
    · rfl
    · exact Nat.lt_of_lt_of_le (bv_lt l) (Nat.pow_le_pow_right (by omega) (by omega))
theorem nbits_snoc (n x : Nat) : nbits (n + 1) x = nbits n x ++ [(x / 2 ^ n % 2 == 1)] := by
  refine bv_inj (by simp [nbits_length]) ?_
  rw [bv_append, bv_nbits, bv_nbits, nbits_length]
  have h2 : bv [(x / 2 ^ n % 2 == 1)] = x / 2 ^ n % 2 := by
    rcases Nat.mod_two_eq_zero_or_one (x / 2 ^ n) with h | h <;> rw [h] <;> rfl
  rw [h2, Nat.pow_succ, Nat.mod_mul]
theorem nbits_add (n m x : Nat) : nbits (n + m) x = nbits n x ++ nbits m (x / 2 ^ n) := by
  refine bv_inj (by simp [nbits_length]) ?_
  rw [bv_append, bv_nbits, bv_nbits, bv_nbits, nbits_length, Nat.pow_add, Nat.mod_mul]
theorem nbits_mod (n x : Nat) : nbits n (x % 2 ^ n) = nbits n x := by
  refine bv_inj (by simp [nbits_length]) ?_
  rw [bv_nbits, bv_nbits, Nat.mod_mod]

/-! ### bytes -/
/-- The bits of bytes. -/
def bb (l : List Nat) : List Bool := l.flatMap (nbits 8)
theorem bb_length (l : List Nat) : (bb l).length = 8 * l.length := by
  induction l with
  | nil => rfl
  | cons b t ih => simp [bb, nbits_length] at ih ⊢; omega
theorem bb_cons (b : Nat) (t : List Nat) : bb (b :: t) = nbits 8 b ++ bb t := by simp [bb]
theorem bb_append (a b : List Nat) : bb (a ++ b) = bb a ++ bb b := by simp [bb]
theorem bv_bb (l : List Nat) (h : ∀ x ∈ l, x < 256) : bv (bb l) = vb l := by
  induction l with
  | nil => rfl
  | cons b t ih =>
    rw [bb_cons, bv_append, bv_nbits, nbits_length, ih (fun x hx => h x (by simp [hx]))]
    have := h b (by simp)
    simp only [vb]
    omega
theorem vb_append (a b : List Nat) : vb (a ++ b) = vb a + 256 ^ a.length * vb b := by
  induction a with
  | nil => simp [vb]
  | cons x t ih =>
    simp only [List.cons_append, vb, List.length_cons, ih, Nat.pow_succ]
    rw [Nat.mul_add, ← Nat.mul_assoc, Nat.mul_comm 256 (256 ^ t.length)]
    omega
theorem vb_lt (l : List Nat) (h : ∀ x ∈ l, x < 256) : vb l < 256 ^ l.length := by
  induction l with
  | nil => simp [vb]
  | cons b t ih =>
    have := ih (fun x hx => h x (by simp [hx]))
    have := h b (by simp)
    simp only [vb, List.length_cons, Nat.pow_succ]
    omega
theorem vb_drop (l : List Nat) (h : ∀ x ∈ l, x < 256) (n : Nat) : vb (l.drop n) = vb l / 2 ^ (8 * n) := by
  have hd : ∀ x ∈ l.drop n, x < 256 := fun x hx => h x (List.mem_of_mem_drop hx)
  rw [← bv_bb _ hd, ← bv_bb _ h, ← bv_drop]
  congr 1
  by_cases hn : n ≤ l.length
  · conv => rhs; rw [← List.take_append_drop n l, bb_append]
    exact (List.drop_left' (by rw [bb_length, List.length_take_of_le hn])).symm
  · rw [List.drop_of_length_le (by omega), List.drop_of_length_le (by rw [bb_length]; omega)]
    rfl
theorem vb_take (l : List Nat) (h : ∀ x ∈ l, x < 256) (n : Nat) : vb (l.take n) = vb l % 2 ^ (8 * n) := by
  have hd : ∀ x ∈ l.take n, x < 256 := fun x hx => h x (List.mem_of_mem_take hx)
  rw [← bv_bb _ hd, ← bv_bb _ h, ← bv_take]
  congr 1
  by_cases hn : n ≤ l.length
  · conv => rhs; rw [← List.take_append_drop n l, bb_append]
    exact (List.take_left' (by rw [bb_length, List.length_take_of_le hn])).symm
  · rw [List.take_of_length_le (l := l) (by omega), List.take_of_length_le (l := bb l) (by rw [bb_length]; omega)]

/-- Bits as bytes; what lacks of the last one is 0. -/
def pk : Nat → List Bool → List Nat
  | 0, _ => []
  | k + 1, l => bv (l.take 8) :: pk k (l.drop 8)
def pack (l : List Bool) : List Nat := pk ((l.length + 7) / 8) l
theorem pk_length (k : Nat) : ∀ l, (pk k l).length = k := by
  induction k with
  | zero => intro l; rfl
  | succ k ih => intro l; simp [pk, ih]
theorem pack_length (l : List Bool) : (pack l).length = (l.length + 7) / 8 := pk_length _ _
theorem pk_lt (k : Nat) : ∀ l, ∀ x ∈ pk k l, x < 256 := by
  induction k with
  | zero => intro l x hx; simp [pk] at hx
  | succ k ih =>
    intro l x hx
    rcases List.mem_cons.1 hx with rfl | hx
    · have := bv_lt (l.take 8)
      have h8 : (l.take 8).length ≤ 8 := by rw [List.length_take]; omega
      exact Nat.lt_of_lt_of_le this (Nat.pow_le_pow_right (by omega) h8)
    · exact ih _ x hx
theorem pack_lt (l : List Bool) : ∀ x ∈ pack l, x < 256 := pk_lt _ _
theorem vb_pk (k : Nat) : ∀ l : List Bool, l.length ≤ 8 * k → vb (pk k l) = bv l := by
  induction k with
  | zero => intro l h; have : l = [] := List.eq_nil_of_length_eq_zero (by omega); subst this; rfl
  | succ k ih =>
    intro l h
    simp only [pk, vb]
    rw [ih _ (by simp; omega), bv_take, bv_drop]
    exact Nat.mod_add_div (bv l) 256
theorem vb_pack (l : List Bool) : vb (pack l) = bv l := vb_pk _ l (by omega)
theorem vb_inj : ∀ (a b : List Nat), a.length = b.length → (∀ x ∈ a, x < 256) → (∀ x ∈ b, x < 256) → vb a = vb b → a = b := by
  intro a
  induction a with
  | nil => intro b hl _ _ _; exact (List.eq_nil_of_length_eq_zero hl.symm).symm
  | cons x t ih =>
    intro b hl ha hb h
    cases b with
    | nil => simp at hl
    | cons y u =>
      have hx := ha x (by simp)
      have hy := hb y (by simp)
      simp only [vb] at h
      obtain rfl : x = y := by omega
      rw [ih u (by simpa using hl) (fun z hz => ha z (by simp [hz])) (fun z hz => hb z (by simp [hz])) (by omega)]
/-! ### Go's operations -/
theorem shl_nat (x s : Nat) (hs : s ≤ 64) (h : x * 2 ^ s < 2 ^ 64) : shl .u64 (x : Int) (s : Int) = ((x * 2 ^ s : Nat) : Int) := by
  unfold shl
  have e : min ((s : Int)).toNat IntKind.u64.bits = s := by simp [IntKind.bits]; omega
  rw [e]
  have e2 : ((x : Int) * 2 ^ s) = ((x * 2 ^ s : Nat) : Int) := by simp
  rw [e2]
  exact wu64 (by omega) (by omega)
theorem shr_nat (x s : Nat) (hs : s ≤ 64) : shr .u64 (x : Int) (s : Int) = ((x / 2 ^ s : Nat) : Int) := by
  unfold shr
  have e : min ((s : Int)).toNat IntKind.u64.bits = s := by simp [IntKind.bits]; omega
  rw [e]
  simp
theorem mask_nat (n : Nat) (h : n ≤ 63) : IntKind.u64.wrap (shl .u64 1 (n : Int) - 1) = ((2 ^ n - 1 : Nat) : Int) := by
  have hp : 2 ^ n ≤ 2 ^ 63 := Nat.pow_le_pow_right (by omega) h
  have := shl_nat 1 n (by omega) (by omega)
  have e : shl .u64 1 (n : Int) = ((1 * 2 ^ n : Nat) : Int) := this
  rw [e]
  have := Nat.two_pow_pos n
  rw [wu64 (by omega) (by omega)]
  omega
theorem low_nat (x n : Nat) (hx : x < 2 ^ 64) (h : n ≤ 63) : Go.bits .and .u64 (x : Int) ((2 ^ n - 1 : Nat) : Int) = ((x % 2 ^ n : Nat) : Int) := by
  have hp : 2 ^ n ≤ 2 ^ 63 := Nat.pow_le_pow_right (by omega) h
  rw [(bits_u64 x (2 ^ n - 1) hx (by omega)).1, Nat.and_two_pow_sub_one_eq_mod]
theorem or_nat (x y i : Nat) (hx : x < 2 ^ i) (hy : y % 2 ^ i = 0) (hi : y < 2 ^ 64) (h64 : i ≤ 64) : Go.bits .or .u64 (x : Int) (y : Int) = ((x + y : Nat) : Int) := by
  have hp : 2 ^ i ≤ 2 ^ 64 := Nat.pow_le_pow_right (by omega) h64
  rw [(bits_u64 x y (by omega) hi).2, Nat.or_comm, or_join y x i hy hx, Nat.add_comm]
end Go.Proofs.Ytoondlhlcmjniaa.Com
