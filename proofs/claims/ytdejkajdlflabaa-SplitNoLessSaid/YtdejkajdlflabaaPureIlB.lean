/- How many bits something needs: the program's and the document's. -/
import Derived.Test.YtdejkajdlflabaaCom
import Derived.Test.YtdejkajdlflabaaHLogB
import Derived.Test.YtdejkajdlflabaaPx5
set_option linter.unusedVariables false
set_option linter.unusedSimpArgs false
set_option linter.unusedSectionVars false
namespace Go.Proofs.Ytdejkajdlflabaa.Pure
open Go.RowKit Go.Proofs.YtdejkajdlflabaaW.PrintWords Go.Proofs.YtdejkajdlflabaaW.PrintMore Go.Proofs.Ytdejkajdlflabaa.Pa Go.Proofs.Ytdejkajdlflabaa.Hd Go.Proofs.Ytdejkajdlflabaa.P Go.Proofs.Ytdejkajdlflabaa.Com

/-! ### how many bits a number has -/
def tab : ByteArray := (⟨#[0, 1, 2, 2, 3, 3, 3, 3, 4, 4, 4, 4, 4, 4, 4, 4, 5, 5, 5, 5, 5, 5, 5, 5, 5, 5, 5, 5, 5, 5, 5, 5, 6, 6, 6, 6, 6, 6, 6, 6, 6, 6, 6, 6, 6, 6, 6, 6, 6, 6, 6, 6, 6, 6, 6, 6, 6, 6, 6, 6, 6, 6, 6, 6, 7, 7, 7, 7, 7, 7, 7, 7, 7, 7, 7, 7, 7, 7, 7, 7, 7, 7, 7, 7, 7, 7, 7, 7, 7, 7, 7, 7, 7, 7, 7, 7, 7, 7, 7, 7, 7, 7, 7, 7, 7, 7, 7, 7, 7, 7, 7, 7, 7, 7, 7, 7, 7, 7, 7, 7, 7, 7, 7, 7, 7, 7, 7, 7, 8, 8, 8, 8, 8, 8, 8, 8, 8, 8, 8, 8, 8, 8, 8, 8, 8, 8, 8, 8, 8, 8, 8, 8, 8, 8, 8, 8, 8, 8, 8, 8, 8, 8, 8, 8, 8, 8, 8, 8, 8, 8, 8, 8, 8, 8, 8, 8, 8, 8, 8, 8, 8, 8, 8, 8, 8, 8, 8, 8, 8, 8, 8, 8, 8, 8, 8, 8, 8, 8, 8, 8, 8, 8, 8, 8, 8, 8, 8, 8, 8, 8, 8, 8, 8, 8, 8, 8, 8, 8, 8, 8, 8, 8, 8, 8, 8, 8, 8, 8, 8, 8, 8, 8, 8, 8, 8, 8, 8, 8, 8, 8, 8, 8, 8, 8, 8, 8, 8, 8, 8, 8, 8, 8, 8, 8, 8, 8]⟩ : ByteArray)
theorem tab_at : ∀ y : Fin 256, 1 ≤ y.val → ∃ j : Fin 8, bt tab (y.val : Int) = j.val + 1 ∧ 2 ^ j.val ≤ y.val ∧ y.val < 2 * 2 ^ j.val := by decide +kernel
theorem tab_bits (y : Int) (h1 : 1 ≤ y) (h2 : y < 256) : ∃ j : Nat, j ≤ 7 ∧ bt tab y = j + 1 ∧ 2 ^ j ≤ y.toNat ∧ y.toNat < 2 * 2 ^ j := by
  obtain ⟨j, a, b, c⟩ := tab_at ⟨y.toNat, by omega⟩ (by simp; omega)
  refine ⟨j.val, by omega, ?_, b, c⟩
  have e : ((y.toNat : Nat) : Int) = y := by omega
  simpa [e] using a

theorem j0_eq (k : Nat) (x0 x2 : Int) : bits_Len64.j0 (k + 1) x0 x2 = if x0 ≥ 65536 then (if (x0 / 65536) ≥ 256 then (if 0 ≤ (((x0 / 65536) / 256) % 256) then (if (((x0 / 65536) / 256) % 256) < 256 then (some (wrap64 ((wrap64 ((wrap64 (x2 + 16)) + 8)) + (wrap64 (bt tab (((x0 / 65536) / 256) % 256)))))) else (none)) else (none)) else (if 0 ≤ ((x0 / 65536) % 256) then (if ((x0 / 65536) % 256) < 256 then (some (wrap64 ((wrap64 (x2 + 16)) + (wrap64 (bt tab ((x0 / 65536) % 256)))))) else (none)) else (none))) else (if x0 ≥ 256 then (if 0 ≤ ((x0 / 256) % 256) then (if ((x0 / 256) % 256) < 256 then (some (wrap64 ((wrap64 (x2 + 8)) + (wrap64 (bt tab ((x0 / 256) % 256)))))) else (none)) else (none)) else (if 0 ≤ ((x0) % 256) then (if ((x0) % 256) < 256 then (some (wrap64 (x2 + (wrap64 (bt tab ((x0) % 256)))))) else (none)) else (none))) := rfl

theorem len_ev (x : Nat) (h1 : 1 ≤ x) (h2 : x < 4294967296) : ∃ k : Nat, k ≤ 31 ∧ 2 ^ k ≤ x ∧ x < 2 * 2 ^ k ∧ Ev (fun n => bits_Len64.f n (x : Int)) ((k : Int) + 1) := by
  have hl : ∀ (k : Nat), k ≤ 31 → ∀ (g : Nat → Option Int), (∀ n, bits_Len64.f (n + 1) (x : Int) = g n) → Ev g ((k : Int) + 1) → Ev (fun n => bits_Len64.f n (x : Int)) ((k : Int) + 1) := fun k _ g h e => Ev.step h e
  have hf : ∀ n, bits_Len64.f n (x : Int) = bits_Len64.j0 n (x : Int) 0 := by
    intro n
    unfold bits_Len64.f
    rw [if_neg (by omega)]
  by_cases a : 65536 ≤ x
  · by_cases b : 16777216 ≤ x
    · obtain ⟨j, j1, j2, j3, j4⟩ := tab_bits ((x : Int) / 16777216) (by omega) (by omega)
      refine ⟨24 + j, by omega, ?_, ?_, ?_⟩
      · rw [Nat.pow_add]; omega
      · rw [Nat.pow_add]; omega
      · refine Ev.congr hf (Ev.step (f := fun _ => some (((24 + j : Nat) : Int) + 1)) (fun n => ?_) (Ev.now _))
        rw [j0_eq]
        have e1 : (x : Int) / 65536 / 256 = (x : Int) / 16777216 := by omega
        have e2 : (x : Int) / 16777216 % 256 = (x : Int) / 16777216 := by omega
        rw [if_pos (by omega), if_pos (by omega), e1, e2, if_pos (by omega), if_pos (by omega)]
        have e3 := j2
        rw [e3, w64 (x := (j : Int) + 1) (by omega) (by omega), w64 (x := 0 + 16) (by omega) (by omega), w64 (x := 0 + 16 + 8) (by omega) (by omega), w64 (x := 0 + 16 + 8 + ((j : Int) + 1)) (by omega) (by omega)]
        congr 1
        try omega
    · obtain ⟨j, j1, j2, j3, j4⟩ := tab_bits ((x : Int) / 65536) (by omega) (by omega)
      refine ⟨16 + j, by omega, ?_, ?_, ?_⟩
      · rw [Nat.pow_add]; omega
      · rw [Nat.pow_add]; omega
      · refine Ev.congr hf (Ev.step (f := fun _ => some (((16 + j : Nat) : Int) + 1)) (fun n => ?_) (Ev.now _))
        rw [j0_eq]
        have e2 : (x : Int) / 65536 % 256 = (x : Int) / 65536 := by omega
        rw [if_pos (by omega), if_neg (by omega), e2, if_pos (by omega), if_pos (by omega)]
        have e3 := j2
        rw [e3, w64 (x := (j : Int) + 1) (by omega) (by omega), w64 (x := 0 + 16) (by omega) (by omega), w64 (x := 0 + 16 + ((j : Int) + 1)) (by omega) (by omega)]
        congr 1
        try omega
  · by_cases b : 256 ≤ x
    · obtain ⟨j, j1, j2, j3, j4⟩ := tab_bits ((x : Int) / 256) (by omega) (by omega)
      refine ⟨8 + j, by omega, ?_, ?_, ?_⟩
      · rw [Nat.pow_add]; omega
      · rw [Nat.pow_add]; omega
      · refine Ev.congr hf (Ev.step (f := fun _ => some (((8 + j : Nat) : Int) + 1)) (fun n => ?_) (Ev.now _))
        rw [j0_eq]
        have e2 : (x : Int) / 256 % 256 = (x : Int) / 256 := by omega
        rw [if_neg (by omega), if_pos (by omega), e2, if_pos (by omega), if_pos (by omega)]
        have e3 := j2
        rw [e3, w64 (x := (j : Int) + 1) (by omega) (by omega), w64 (x := 0 + 8) (by omega) (by omega), w64 (x := 0 + 8 + ((j : Int) + 1)) (by omega) (by omega)]
        congr 1
        try omega
    · obtain ⟨j, j1, j2, j3, j4⟩ := tab_bits (x : Int) (by omega) (by omega)
      refine ⟨j, by omega, by omega, by omega, ?_⟩
      refine Ev.congr hf (Ev.step (f := fun _ => some ((j : Int) + 1)) (fun n => ?_) (Ev.now _))
      rw [j0_eq]
      have e2 : (x : Int) % 256 = (x : Int) := by omega
      rw [if_neg (by omega), if_neg (by omega), e2, if_pos (by omega), if_pos (by omega)]
      have e3 := j2
      rw [e3, w64 (x := (j : Int) + 1) (by omega) (by omega), w64 (x := 0 + ((j : Int) + 1)) (by omega) (by omega), Int.zero_add]

/-! ### the bits behind the point -/
def gb : Nat → Nat → Nat
  | 0, _ => 0
  | m + 1, x => if x * x / 2147483648 < 4294967296 then gb m (x * x / 2147483648) else 2 ^ m + gb m (x * x / 2147483648 / 2)

theorem sq_bd (x : Nat) (h1 : 2147483648 ≤ x) (h2 : x < 4294967296) : 2147483648 ≤ x * x / 2147483648 ∧ x * x / 2147483648 < 8589934592 ∧ x * x < 18446744073709551616 := by
  have a : 2147483648 * 2147483648 ≤ x * x := Nat.mul_le_mul h1 h1
  have b : x * x ≤ 4294967295 * 4294967295 := Nat.mul_le_mul (by omega) (by omega)
  omega

theorem gb_lt (m : Nat) : ∀ x, 2147483648 ≤ x → x < 4294967296 → gb m x < 2 ^ m := by
  induction m with
  | zero => intro x _ _; simp [gb]
  | succ m ih =>
    intro x h1 h2
    obtain ⟨a, b, _⟩ := sq_bd x h1 h2
    simp only [gb]
    rw [Nat.pow_succ]
    split
    · have := ih _ a (by assumption); omega
    · have := ih (x * x / 2147483648 / 2) (by omega) (by omega); omega

theorem gb_mono (m : Nat) : ∀ x y, 2147483648 ≤ x → x ≤ y → y < 4294967296 → gb m x ≤ gb m y := by
  induction m with
  | zero => intro x y _ _ _; simp [gb]
  | succ m ih =>
    intro x y h1 h2 h3
    obtain ⟨a, b, _⟩ := sq_bd x h1 (by omega)
    obtain ⟨c, d, _⟩ := sq_bd y (by omega) h3
    have hxy : x * x / 2147483648 ≤ y * y / 2147483648 := Nat.div_le_div_right (Nat.mul_le_mul h2 h2)
    simp only [gb]
    by_cases e1 : x * x / 2147483648 < 4294967296
    · rw [if_pos e1]
      by_cases e2 : y * y / 2147483648 < 4294967296
      · rw [if_pos e2]; exact ih _ _ a hxy e2
      · rw [if_neg e2]; have := gb_lt m _ a e1; omega
    · rw [if_neg e1, if_neg (by omega)]
      have := ih (x * x / 2147483648 / 2) (y * y / 2147483648 / 2) (by omega) (by omega) (by omega)
      omega

theorem or_one (n : Nat) (h : n < 4611686018427387904) : Go.bits .or .i64 ((2 * n : Nat) : Int) 1 = ((2 * n + 1 : Nat) : Int) := by
  have := (bits_i64 (2 * n) 1 (by omega) (by omega)).2
  rw [or_join (2 * n) 1 1 (by omega) (by omega)] at this
  exact this

theorem go_eq (m : Nat) : ∀ (x o : Nat), 2147483648 ≤ x → x < 4294967296 → (o + 1) * 2 ^ m ≤ 1099511627776 → ilog_Log.go m (x : Int) (o : Int) = ((o * 2 ^ m + gb m x : Nat) : Int) := by
  induction m with
  | zero => intro x o _ _ _; simp [ilog_Log.go, gb]
  | succ m ih =>
    intro x o h1 h2 ho
    obtain ⟨a, b, c⟩ := sq_bd x h1 h2
    have hp : 1 ≤ 2 ^ m := Nat.one_le_two_pow
    rw [Nat.pow_succ] at ho
    have ho' : o < 1099511627776 := by
      have : (o + 1) * 1 ≤ (o + 1) * (2 ^ m * 2) := Nat.mul_le_mul_left _ (by omega)
      omega
    have e1 : IntKind.u64.wrap ((x : Int) * x) / 2147483648 = ((x * x / 2147483648 : Nat) : Int) := by
      have hc : ((x : Int) * x) = ((x * x : Nat) : Int) := by simp
      rw [hc, wu64 (by omega) (by omega)]
      omega
    simp only [ilog_Log.go, gb]
    rw [e1, w64 (x := (o : Int) * 2) (by omega) (by omega)]
    have e2 : (o : Int) * 2 = ((2 * o : Nat) : Int) := by omega
    rw [e2, or_one o (by omega)]
    have e4 : (2 * o) * 2 ^ m = o * 2 ^ (m + 1) := by rw [Nat.pow_succ, Nat.mul_comm 2 o, Nat.mul_assoc, Nat.mul_comm 2]
    have e5 : (2 * o + 1 + 1) * 2 ^ m = (o + 1) * (2 ^ m * 2) := by
      have : 2 * o + 1 + 1 = (o + 1) * 2 := by omega
      rw [this, Nat.mul_assoc, Nat.mul_comm 2]
    by_cases hb : x * x / 2147483648 < 4294967296
    · rw [if_pos (by omega), if_pos hb, ih _ (2 * o) a hb (by
        have : (2 * o + 1) * 2 ^ m ≤ (2 * o + 1 + 1) * 2 ^ m := Nat.mul_le_mul_right _ (by omega)
        omega), e4]
    · rw [if_neg (by omega), if_neg hb]
      have e3 : ((x * x / 2147483648 : Nat) : Int) / 2 = ((x * x / 2147483648 / 2 : Nat) : Int) := by omega
      rw [e3, ih _ (2 * o + 1) (by omega) (by omega) (by omega)]
      congr 1
      rw [Nat.add_mul, e4, Nat.one_mul]
      omega

theorem ref_l1 (d : Nat) : ∀ (c x o : Nat), c + d = 4 → 2147483648 ≤ x → x < 4294967296 → (o + 1) * 2 ^ d ≤ 1099511627776 → Ev (fun k => gladstoneref52_Log.l1 k (x : Int) (o : Int) (c : Int)) (((o * 2 ^ d + gb d x : Nat) : Int), 0) := by
  induction d with
  | zero =>
    intro c x o hc _ _ _
    refine Ev.step (f := fun _ => some ((o : Int), 0)) (fun k => ?_) (Ev.some (by simp [gb]))
    simp only [gladstoneref52_Log.l1]
    rw [if_neg (by omega)]
  | succ m ih =>
    intro cc x o hc h1 h2 ho
    obtain ⟨a, b, c⟩ := sq_bd x h1 h2
    have hp : 1 ≤ 2 ^ m := Nat.one_le_two_pow
    rw [Nat.pow_succ] at ho
    have ho' : o < 1099511627776 := by
      have : (o + 1) * 1 ≤ (o + 1) * (2 ^ m * 2) := Nat.mul_le_mul_left _ (by omega)
      omega
    have e1 : IntKind.u64.wrap ((x : Int) * x) / 2147483648 = ((x * x / 2147483648 : Nat) : Int) := by
      have hc : ((x : Int) * x) = ((x * x : Nat) : Int) := by simp
      rw [hc, wu64 (by omega) (by omega)]
      omega
    have e4 : (2 * o) * 2 ^ m = o * 2 ^ (m + 1) := by rw [Nat.pow_succ, Nat.mul_comm 2 o, Nat.mul_assoc, Nat.mul_comm 2]
    have e5 : (2 * o + 1 + 1) * 2 ^ m = (o + 1) * (2 ^ m * 2) := by
      have : 2 * o + 1 + 1 = (o + 1) * 2 := by omega
      rw [this, Nat.mul_assoc, Nat.mul_comm 2]
    simp only [gb]
    by_cases hb : x * x / 2147483648 < 4294967296
    · rw [if_pos hb]
      have := ih (cc + 1) (x * x / 2147483648) (2 * o) (by omega) a hb (by
        have : (2 * o + 1) * 2 ^ m ≤ (2 * o + 1 + 1) * 2 ^ m := Nat.mul_le_mul_right _ (by omega)
        omega)
      rw [e4] at this
      refine Ev.step (fun k => ?_) this
      simp only [gladstoneref52_Log.l1]
      rw [e1, if_pos (by omega), if_neg (by omega), w64 (x := (o : Int) * 2) (by omega) (by omega), w64 (x := (cc : Int) + 1) (by omega) (by omega)]
      congr 1
      omega
    · rw [if_neg hb]
      have := ih (cc + 1) (x * x / 2147483648 / 2) (2 * o + 1) (by omega) (by omega) (by omega) (by omega)
      rw [Nat.add_mul, e4, Nat.one_mul] at this
      have e6 : o * 2 ^ (m + 1) + (2 ^ m + gb m (x * x / 2147483648 / 2)) = o * 2 ^ (m + 1) + 2 ^ m + gb m (x * x / 2147483648 / 2) := by omega
      rw [e6]
      refine Ev.step (fun k => ?_) this
      simp only [gladstoneref52_Log.l1]
      rw [e1, if_pos (by omega), if_pos (by omega), w64 (x := (o : Int) * 2) (by omega) (by omega), w64 (x := (o : Int) * 2 + 1) (by omega) (by omega), w64 (x := (cc : Int) + 1) (by omega) (by omega)]
      congr 1 <;> omega

/-! ### the logarithm -/
/-- Where the number n has k + 1 bits: n as a number of 32 bits. -/
def up31 (n k : Nat) : Nat := n * 2 ^ (31 - k)
theorem pow31 : ∀ k : Nat, k ≤ 31 → 2 ^ k * 2 ^ (31 - k) = 2147483648 := by decide
theorem up31_bd (n k : Nat) (hk : k ≤ 31) (h1 : 2 ^ k ≤ n) (h2 : n < 2 * 2 ^ k) : 2147483648 ≤ up31 n k ∧ up31 n k < 4294967296 := by
  unfold up31
  have e := pow31 k hk
  have hp : 0 < 2 ^ (31 - k) := Nat.two_pow_pos _
  have a : 2 ^ k * 2 ^ (31 - k) ≤ n * 2 ^ (31 - k) := Nat.mul_le_mul_right _ h1
  have b : n * 2 ^ (31 - k) < 2 * 2 ^ k * 2 ^ (31 - k) := Nat.mul_lt_mul_of_pos_right h2 hp
  rw [Nat.mul_assoc] at b
  omega
def lgv (n k : Nat) : Int := ((16 * k + gb 4 (up31 n k) : Nat) : Int)

theorem shl_u64 (x y : Int) (n j : Nat) (hx : x = n) (hy : y = j) (hj : j ≤ 64) (h : n * 2 ^ j < 18446744073709551616) : shl .u64 x y = ((n * 2 ^ j : Nat) : Int) := by
  subst hx hy
  unfold shl
  have e : min ((j : Nat) : Int).toNat IntKind.u64.bits = j := by simp [IntKind.bits]; omega
  have e2 : ((n : Int) * 2 ^ j) = ((n * 2 ^ j : Nat) : Int) := by simp
  rw [e, e2, wu64 (by omega) (by omega)]

theorem log_in (n : Nat) (h1 : 1 ≤ n) (h2 : n < 4294967296) : ∃ k : Nat, k ≤ 31 ∧ 2 ^ k ≤ n ∧ n < 2 * 2 ^ k ∧ Ev (fun q => ilog_Log.f q (n : Int)) (lgv n k, 0) ∧ Ev (fun q => gladstoneref52_Log.f q (n : Int)) (lgv n k, 0) := by
  obtain ⟨k, hk, k1, k2, kev⟩ := len_ev n h1 h2
  obtain ⟨b1, b2⟩ := up31_bd n k hk k1 k2
  refine ⟨k, hk, k1, k2, ?_, ?_⟩
  · unfold ilog_Log.f
    refine Ev.ifn (by omega) (Ev.ifn (by omega) ?_)
    rw [wu64 (x := (n : Int)) (by omega) (by omega)]
    refine Ev.bind kev ?_
    have e1 : (k : Int) + 1 - 1 = (k : Int) := by omega
    rw [e1, w64 (x := (k : Int)) (by omega) (by omega), w64 (x := 31 - (k : Int)) (by omega) (by omega)]
    refine Ev.ifp (by omega) (Ev.some ?_)
    rw [shl_u64 (n : Int) (31 - (k : Int)) n (31 - k) rfl (by omega) (by omega) (by unfold up31 at b2; omega)]
    have := go_eq 4 (up31 n k) k b1 b2 (by simp; omega)
    unfold up31 at this
    rw [this]
    unfold lgv up31
    congr 2
    omega
  · have hl : ∀ d c : Nat, c + d = k → Ev (fun q => gladstoneref52_Log.l0 q (n : Int) (c : Int)) (lgv n k, 0) := by
      intro d
      induction d with
      | zero =>
        intro c hc
        obtain rfl : c = k := by omega
        have hx : IntKind.u64.wrap ((n : Int) * 2147483648) = ((n * 2147483648 : Nat) : Int) := by
          rw [wu64 (by omega) (by omega)]; simp
        have hs : shr .u64 (((n * 2147483648 : Nat)) : Int) (c : Int) = ((up31 n c : Nat) : Int) := by
          unfold shr
          have e : min ((c : Nat) : Int).toNat IntKind.u64.bits = c := by simp [IntKind.bits]; omega
          rw [e]
          have e2 : n * 2147483648 = up31 n c * 2 ^ c := by
            unfold up31
            rw [Nat.mul_assoc, Nat.mul_comm (2 ^ (31 - c)), pow31 c hk]
          rw [e2]
          have hp : (2 : Int) ^ c ≠ 0 := by
            have := Nat.two_pow_pos c
            have h' : ((2 ^ c : Nat) : Int) ≠ 0 := by omega
            simpa using h'
          rw [Int.natCast_mul, Int.natCast_pow]
          exact Int.mul_ediv_cancel _ hp
        have hz : shr .i64 (n : Int) ((c : Int) + 1) = 0 := by
          unfold shr
          have e : min ((c : Int) + 1).toNat IntKind.i64.bits = c + 1 := by simp [IntKind.bits]; omega
          rw [e]
          have e3 : ((n : Int) / 2 ^ (c + 1)) = ((n / 2 ^ (c + 1) : Nat) : Int) := by simp
          rw [e3, Nat.div_eq_of_lt (by rw [Nat.pow_succ]; omega)]
          rfl
        have h4 := ref_l1 4 0 (up31 n c) c (by omega) b1 b2 (by simp; omega)
        have e5 : ((c * 2 ^ 4 + gb 4 (up31 n c) : Nat) : Int) = lgv n c := by unfold lgv; congr 2; omega
        rw [e5] at h4
        refine Ev.step (fun q => ?_) h4
        simp only [gladstoneref52_Log.l0]
        rw [w64 (x := (c : Int) + 1) (by omega) (by omega), wu64 (x := (c : Int) + 1) (by omega) (by omega), if_pos (by omega), hz, if_neg (by omega), wu64 (x := (c : Int)) (by omega) (by omega), if_pos (by omega), wu64 (x := (n : Int)) (by omega) (by omega), hx, hs]
        rfl
      | succ d ih =>
        intro c hc
        refine Ev.step (fun q => ?_) (ih (c + 1) (by omega))
        have hz : 0 < shr .i64 (n : Int) ((c : Int) + 1) := by
          unfold shr
          have e : min ((c : Int) + 1).toNat IntKind.i64.bits = c + 1 := by simp [IntKind.bits]; omega
          rw [e]
          have e3 : ((n : Int) / 2 ^ (c + 1)) = ((n / 2 ^ (c + 1) : Nat) : Int) := by simp
          rw [e3]
          have : 0 < n / 2 ^ (c + 1) := Nat.div_pos (Nat.le_trans (Nat.pow_le_pow_right (by omega) (by omega)) k1) (Nat.two_pow_pos _)
          omega
        simp only [gladstoneref52_Log.l0]
        rw [w64 (x := (c : Int) + 1) (by omega) (by omega), wu64 (x := (c : Int) + 1) (by omega) (by omega), if_pos (by omega), if_pos hz]
        rfl
    refine Ev.step (fun q => ?_) (hl k 0 (by omega))
    simp only [gladstoneref52_Log.f]
    rw [if_neg (by omega)]
    simp only [gladstoneref52_Log.j0]
    rw [if_neg (by simp; omega)]
    rfl

/-- Both logarithms come to one answer. -/
theorem log_both (n : Int) : ∃ r : Int × Int, Ev (fun q => ilog_Log.f q n) r ∧ Ev (fun q => gladstoneref52_Log.f q n) r := by
  by_cases h : n < 1 ∨ 4294967295 < n
  · refine ⟨(0, 2), ?_, ?_⟩
    · unfold ilog_Log.f
      by_cases h1 : n < 1
      · exact Ev.ifp h1 (Ev.now _)
      · exact Ev.ifn h1 (Ev.ifp (by omega) (Ev.now _))
    · refine Ev.step (f := fun _ => some (0, 2)) (fun k => ?_) (Ev.now _)
      simp only [gladstoneref52_Log.f]
      by_cases h1 : n < 1
      · rw [if_pos h1]; simp only [gladstoneref52_Log.j0]; rfl
      · rw [if_neg h1]; simp only [gladstoneref52_Log.j0]; rw [if_pos (by simp; omega)]
  · obtain ⟨k, _, _, _, a, b⟩ := log_in n.toNat (by omega) (by omega)
    have e : ((n.toNat : Nat) : Int) = n := by omega
    rw [e] at a b
    exact ⟨_, a, b⟩

/-- The logarithm and its error. -/
noncomputable def LG (n : Int) : Int × Int := Classical.choose (log_both n)
theorem LG_p (n : Int) : Ev (fun q => ilog_Log.f q n) (LG n) := (Classical.choose_spec (log_both n)).1
theorem LG_r (n : Int) : Ev (fun q => gladstoneref52_Log.f q n) (LG n) := (Classical.choose_spec (log_both n)).2
theorem Ev.same {α : Type} {g : Nat → Option α} {r s : α} (h : Ev g r) (k : Ev g s) : r = s := by
  obtain ⟨K, h⟩ := h
  obtain ⟨K', k⟩ := k
  have := (h (max K K') (by omega)).symm.trans (k (max K K') (by omega))
  exact Option.some.inj this

/-! ### the sum -/
noncomputable def eN (w : Int) : Int → List Int → Int
  | n, [] => n
  | n, a :: t => if a > 0 then eN w (wrap64 (n + wrap64 (a * wrap64 (w - (LG a).1)))) t else eN w n t
noncomputable def eT (l : List Int) : Int → List Int → Int × Int
  | s, [] => (eN (LG s).1 0 l, 0)
  | s, a :: t => if a < 0 then (0, 2) else if a > 4294967295 - s then (0, 2) else eT l (s + a) t

theorem rent_l1 (l : List Int) (hl : l.length ≤ 17592186044416) (w : Int) : Ev (fun k => gladstoneref52_Entropy.l1 k l 0 w 0) (eN w 0 l, 0) := by
  have h := Ev.along l (fun k (s : Int) i => gladstoneref52_Entropy.l1 k l s w i) (fun s t => (eN w s t, 0)) (fun _ _ => True) ?_ ?_ 0 0 (Nat.zero_le _) trivial
  · exact h
  · intro s _
    refine Ev.step (f := fun _ => some (s, 0)) (fun k => ?_) (Ev.now _)
    simp only [gladstoneref52_Entropy.l1]
    rw [if_neg (by omega)]
  · intro i s a t _ hd ha hlt ih
    simp only [eN]
    by_cases h0 : a > 0
    · rw [if_pos h0]
      refine Ev.step (f := fun k => (gladstoneref52_Log.f k a).bind fun bt105 => gladstoneref52_Entropy.l1 k l (wrap64 (s + wrap64 (a * wrap64 (w - bt105.1)))) w ((i + 1 : Nat) : Int)) (fun k => ?_) (Ev.bind (LG_r a) (ih _ trivial))
      simp only [gladstoneref52_Entropy.l1]
      rw [if_pos (by omega), if_pos (by omega), rd_some ha, if_pos h0, w64 (x := (i : Int) + 1) (by omega) (by omega)]
      rfl
    · rw [if_neg h0]
      refine Ev.step (fun k => ?_) (ih _ trivial)
      simp only [gladstoneref52_Entropy.l1]
      rw [if_pos (by omega), if_pos (by omega), rd_some ha, if_neg h0, w64 (x := (i : Int) + 1) (by omega) (by omega)]
      rfl

theorem rent_ev (l : List Int) (hl : l.length ≤ 17592186044416) : Ev (fun k => gladstoneref52_Entropy.f k l) (eT l 0 l) := by
  have h := Ev.along l (fun k (s : Int) i => gladstoneref52_Entropy.l0 k l s i) (fun s t => eT l s t) (fun _ s => 0 ≤ s ∧ s ≤ 4294967295) ?_ ?_ 0 0 (Nat.zero_le _) (by omega)
  · exact h
  · intro s _
    simp only [eT]
    refine Ev.step (f := fun k => (gladstoneref52_Log.f k s).bind fun bt102 => gladstoneref52_Entropy.l1 k l 0 bt102.1 0) (fun k => ?_) (Ev.bind (LG_r s) (rent_l1 l hl _))
    simp only [gladstoneref52_Entropy.l0]
    rw [if_neg (by omega)]
  · intro i s a t hs hd ha hlt ih
    simp only [eT]
    refine Ev.step (f := fun k => if a < 0 then some (0, 2) else if a > 4294967295 - s then some (0, 2) else gladstoneref52_Entropy.l0 k l (wrap64 (s + a)) ((i + 1 : Nat) : Int)) (fun k => ?_) ?_
    · simp only [gladstoneref52_Entropy.l0]
      rw [if_pos (by omega), if_pos (by omega), rd_some ha, w64 (x := 4294967295 - s) (by omega) (by omega), w64 (x := (i : Int) + 1) (by omega) (by omega)]
      rfl
    · by_cases a0 : a < 0
      · rw [if_pos a0]; exact Ev.ifp a0 (Ev.now _)
      · by_cases a1 : a > 4294967295 - s
        · rw [if_neg a0, if_pos a1]; exact Ev.ifn a0 (Ev.ifp a1 (Ev.now _))
        · rw [if_neg a0, if_neg a1]
          refine Ev.ifn a0 (Ev.ifn a1 ?_)
          rw [w64 (x := s + a) (by omega) (by omega)]
          exact ih _ (by omega)

/-! ### a greater number never has fewer -/
theorem LG_in (n : Nat) (h1 : 1 ≤ n) (h2 : n < 4294967296) : ∃ k : Nat, k ≤ 31 ∧ 2 ^ k ≤ n ∧ n < 2 * 2 ^ k ∧ LG (n : Int) = (lgv n k, 0) := by
  obtain ⟨k, a, b, c, d, _⟩ := log_in n h1 h2
  exact ⟨k, a, b, c, Ev.same (LG_p n) d⟩

theorem lgv_mono (n m k j : Nat) (hk : k ≤ 31) (hj : j ≤ 31) (a1 : 2 ^ k ≤ n) (a2 : n < 2 * 2 ^ k) (b1 : 2 ^ j ≤ m) (b2 : m < 2 * 2 ^ j) (h : n ≤ m) : lgv n k ≤ lgv m j := by
  have hkj : k ≤ j := by
    refine Nat.le_of_not_lt fun hlt => ?_
    have : 2 ^ (j + 1) ≤ 2 ^ k := Nat.pow_le_pow_right (by omega) hlt
    rw [Nat.pow_succ] at this
    omega
  obtain ⟨c1, c2⟩ := up31_bd n k hk a1 a2
  obtain ⟨d1, d2⟩ := up31_bd m j hj b1 b2
  unfold lgv
  by_cases e : k = j
  · subst e
    have : up31 n k ≤ up31 m k := by unfold up31; exact Nat.mul_le_mul_right _ h
    have := gb_mono 4 _ _ c1 this d2
    omega
  · have := gb_lt 4 _ c1 c2
    simp at this
    omega

end Go.Proofs.Ytdejkajdlflabaa.Pure
