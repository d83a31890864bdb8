/- How many bits a number has: the program's and the document's. -/
import Derived.Test.YtnmggblhbodfgaaCom
import Derived.Test.YtnmggblhbodfgaaPx1
import Derived.Test.YtnmggblhbodfgaaPx4
set_option linter.unusedVariables false
set_option linter.unusedSimpArgs false
set_option linter.unusedSectionVars false
namespace Go.Proofs.Ytnmggblhbodfgaa.Com
open Go.RowKit Go.Proofs.YtnmggblhbodfgaaW.PrintWords Go.Proofs.YtnmggblhbodfgaaW.PrintMore Go.Proofs.Ytnmggblhbodfgaa.P
/-! ### how many bits a number has -/
def tab : ByteArray := (⟨#[0, 1, 2, 2, 3, 3, 3, 3, 4, 4, 4, 4, 4, 4, 4, 4, 5, 5, 5, 5, 5, 5, 5, 5, 5, 5, 5, 5, 5, 5, 5, 5, 6, 6, 6, 6, 6, 6, 6, 6, 6, 6, 6, 6, 6, 6, 6, 6, 6, 6, 6, 6, 6, 6, 6, 6, 6, 6, 6, 6, 6, 6, 6, 6, 7, 7, 7, 7, 7, 7, 7, 7, 7, 7, 7, 7, 7, 7, 7, 7, 7, 7, 7, 7, 7, 7, 7, 7, 7, 7, 7, 7, 7, 7, 7, 7, 7, 7, 7, 7, 7, 7, 7, 7, 7, 7, 7, 7, 7, 7, 7, 7, 7, 7, 7, 7, 7, 7, 7, 7, 7, 7, 7, 7, 7, 7, 7, 7, 8, 8, 8, 8, 8, 8, 8, 8, 8, 8, 8, 8, 8, 8, 8, 8, 8, 8, 8, 8, 8, 8, 8, 8, 8, 8, 8, 8, 8, 8, 8, 8, 8, 8, 8, 8, 8, 8, 8, 8, 8, 8, 8, 8, 8, 8, 8, 8, 8, 8, 8, 8, 8, 8, 8, 8, 8, 8, 8, 8, 8, 8, 8, 8, 8, 8, 8, 8, 8, 8, 8, 8, 8, 8, 8, 8, 8, 8, 8, 8, 8, 8, 8, 8, 8, 8, 8, 8, 8, 8, 8, 8, 8, 8, 8, 8, 8, 8, 8, 8, 8, 8, 8, 8, 8, 8, 8, 8, 8, 8, 8, 8, 8, 8, 8, 8, 8, 8, 8, 8, 8, 8, 8, 8, 8, 8, 8, 8]⟩ : ByteArray)
theorem tab_at : ∀ y : Fin 256, 1 ≤ y.val → ∃ j : Fin 8, bt tab (y.val : Int) = j.val + 1 ∧ 2 ^ j.val ≤ y.val ∧ y.val < 2 * 2 ^ j.val := by decide +kernel
theorem tab_bits (y : Int) (h1 : 1 ≤ y) (h2 : y < 256) : ∃ j : Nat, j ≤ 7 ∧ bt tab y = j + 1 ∧ 2 ^ j ≤ y.toNat ∧ y.toNat < 2 * 2 ^ j := by
  obtain ⟨j, a, b, c⟩ := tab_at ⟨y.toNat, by omega⟩ (by simp; omega)
  refine ⟨j.val, by omega, ?_, b, c⟩
  have e : ((y.toNat : Nat) : Int) = y := by omega
  simpa [e] using a

theorem j0_eq (k : Nat) (x0 x2 : Int) : bits_Len64.j0 (k + 1) x0 x2 = if x0 ≥ 65536 then (if (x0 / 65536) ≥ 256 then (if 0 ≤ (((x0 / 65536) / 256) % 256) then (if (((x0 / 65536) / 256) % 256) < 256 then (some (wrap64 ((wrap64 ((wrap64 (x2 + 16)) + 8)) + (wrap64 (bt tab (((x0 / 65536) / 256) % 256)))))) else (none)) else (none)) else (if 0 ≤ ((x0 / 65536) % 256) then (if ((x0 / 65536) % 256) < 256 then (some (wrap64 ((wrap64 (x2 + 16)) + (wrap64 (bt tab ((x0 / 65536) % 256)))))) else (none)) else (none))) else (if x0 ≥ 256 then (if 0 ≤ ((x0 / 256) % 256) then (if ((x0 / 256) % 256) < 256 then (some (wrap64 ((wrap64 (x2 + 8)) + (wrap64 (bt tab ((x0 / 256) % 256)))))) else (none)) else (none)) else (if 0 ≤ ((x0) % 256) then (if ((x0) % 256) < 256 then (some (wrap64 (x2 + (wrap64 (bt tab ((x0) % 256)))))) else (none)) else (none))) := rfl

theorem len_ev (x : Nat) (h1 : 1 ≤ x) (h2 : x < 4294967296) : ∃ k : Nat, k ≤ 31 ∧ 2 ^ k ≤ x ∧ x < 2 * 2 ^ k ∧ Ev (fun n => bits_Len64.f n (x : Int)) ((k : Int) + 1) := by
  have hl : ∀ (k : Nat), k ≤ 31 → ∀ (g : Nat → Option Int), (∀ n, bits_Len64.f (n + 1) (x : Int) = g n) → Ev g ((k : Int) + 1) → Ev (fun n => bits_Len64.f n (x : Int)) ((k : Int) + 1) := fun k _ g h e => Ev.step h e
  have hf : ∀ n, bits_Len64.f n (x : Int) = bits_Len64.j0 n (x : Int) 0 := by
    intro n
    unfold bits_Len64.f
    rw [if_neg (by omega)]
  by_cases a : 65536 ≤ x
  · by_cases b : 16777216 ≤ x
    · obtain ⟨j, j1, j2, j3, j4⟩ := tab_bits ((x : Int) / 16777216) (by omega) (by omega)
      refine ⟨24 + j, by omega, ?_, ?_, ?_⟩
      · rw [Nat.pow_add]; omega
      · rw [Nat.pow_add]; omega
      · refine Ev.congr hf (Ev.step (f := fun _ => some (((24 + j : Nat) : Int) + 1)) (fun n => ?_) (Ev.now _))
        rw [j0_eq]
        have e1 : (x : Int) / 65536 / 256 = (x : Int) / 16777216 := by omega
        have e2 : (x : Int) / 16777216 % 256 = (x : Int) / 16777216 := by omega
        rw [if_pos (by omega), if_pos (by omega), e1, e2, if_pos (by omega), if_pos (by omega)]
        have e3 := j2
        rw [e3, w64 (x := (j : Int) + 1) (by omega) (by omega), w64 (x := 0 + 16) (by omega) (by omega), w64 (x := 0 + 16 + 8) (by omega) (by omega), w64 (x := 0 + 16 + 8 + ((j : Int) + 1)) (by omega) (by omega)]
        congr 1
        try omega
    · obtain ⟨j, j1, j2, j3, j4⟩ := tab_bits ((x : Int) / 65536) (by omega) (by omega)
      refine ⟨16 + j, by omega, ?_, ?_, ?_⟩
      · rw [Nat.pow_add]; omega
      · rw [Nat.pow_add]; omega
      · refine Ev.congr hf (Ev.step (f := fun _ => some (((16 + j : Nat) : Int) + 1)) (fun n => ?_) (Ev.now _))
        rw [j0_eq]
        have e2 : (x : Int) / 65536 % 256 = (x : Int) / 65536 := by omega
        rw [if_pos (by omega), if_neg (by omega), e2, if_pos (by omega), if_pos (by omega)]
        have e3 := j2
        rw [e3, w64 (x := (j : Int) + 1) (by omega) (by omega), w64 (x := 0 + 16) (by omega) (by omega), w64 (x := 0 + 16 + ((j : Int) + 1)) (by omega) (by omega)]
        congr 1
        try omega
  · by_cases b : 256 ≤ x
    · obtain ⟨j, j1, j2, j3, j4⟩ := tab_bits ((x : Int) / 256) (by omega) (by omega)
      refine ⟨8 + j, by omega, ?_, ?_, ?_⟩
      · rw [Nat.pow_add]; omega
      · rw [Nat.pow_add]; omega
      · refine Ev.congr hf (Ev.step (f := fun _ => some (((8 + j : Nat) : Int) + 1)) (fun n => ?_) (Ev.now _))
        rw [j0_eq]
        have e2 : (x : Int) / 256 % 256 = (x : Int) / 256 := by omega
        rw [if_neg (by omega), if_pos (by omega), e2, if_pos (by omega), if_pos (by omega)]
        have e3 := j2
        rw [e3, w64 (x := (j : Int) + 1) (by omega) (by omega), w64 (x := 0 + 8) (by omega) (by omega), w64 (x := 0 + 8 + ((j : Int) + 1)) (by omega) (by omega)]
        congr 1
        try omega
    · obtain ⟨j, j1, j2, j3, j4⟩ := tab_bits (x : Int) (by omega) (by omega)
      refine ⟨j, by omega, by omega, by omega, ?_⟩
      refine Ev.congr hf (Ev.step (f := fun _ => some ((j : Int) + 1)) (fun n => ?_) (Ev.now _))
      rw [j0_eq]
      have e2 : (x : Int) % 256 = (x : Int) := by omega
      rw [if_neg (by omega), if_neg (by omega), e2, if_pos (by omega), if_pos (by omega)]
      have e3 := j2
      rw [e3, w64 (x := (j : Int) + 1) (by omega) (by omega), w64 (x := 0 + ((j : Int) + 1)) (by omega) (by omega), Int.zero_add]

/-- How many bits a number has, of so many rows. -/
def wd (n : Nat) : Nat := max 9 ((n - 1).log2 + 1)
theorem wd_ge (n : Nat) : 9 ≤ wd n := Nat.le_max_left _ _
theorem wd_lt (n : Nat) (h : 1 ≤ n) : n - 1 < 2 ^ wd n := by
  by_cases h0 : n - 1 = 0
  · rw [h0]; exact Nat.two_pow_pos _
  · exact Nat.lt_of_lt_of_le ((Nat.log2_lt h0).1 (Nat.lt_succ_self _)) (Nat.pow_le_pow_right (by omega) (Nat.le_max_right _ _))
theorem wd_le_pow {n i : Nat} (h : i < wd n) (h9 : 9 ≤ i) : 2 ^ i ≤ n - 1 := by
  unfold wd at h
  have h2 : i ≤ (n - 1).log2 := by omega
  by_cases h0 : n - 1 = 0
  · rw [h0] at h2; simp at h2; omega
  · exact Nat.le_trans (Nat.pow_le_pow_right (by omega) h2) (Nat.log2_self_le h0)
theorem wd_le (n : Nat) (h : n ≤ 4294967296) : wd n ≤ 32 := by
  unfold wd
  by_cases h0 : n - 1 = 0
  · rw [h0]; simp
  · have := (Nat.log2_lt (k := 32) h0).2 (by omega)
    omega
theorem width_ev (n : Nat) (h1 : 2 ≤ n) (h2 : n ≤ 4294967296) : Ev (fun k => lzw_width.f k (n : Int)) ((wd n : Nat) : Int) := by
  obtain ⟨k, k1, k2, k3, h⟩ := len_ev (n - 1) (by omega) (by omega)
  have hk : (n - 1).log2 = k := by
    have h0 : n - 1 ≠ 0 := by omega
    have a := (Nat.log2_lt (k := k + 1) h0).2 (by rw [Nat.pow_succ]; omega)
    have b := (Nat.le_log2 h0).2 k2
    omega
  have e1 : IntKind.u64.wrap (wrap64 ((n : Int) - 1)) = ((n - 1 : Nat) : Int) := by
    rw [w64 (by omega) (by omega), wu64 (by omega) (by omega)]; omega
  refine Ev.congr (f := fun q => (bits_Len64.f q ((n - 1 : Nat) : Int)).bind fun t => some (mx 9 t)) (fun q => ?_) (Ev.bind h ?_)
  · unfold lzw_width.f bits_Len.f
    rw [e1]
    simp only [Option.bind_assoc, Option.bind_some]
  · have e2 : mx 9 ((k : Int) + 1) = ((wd n : Nat) : Int) := by
      unfold wd
      rw [hk]
      unfold mx
      split <;> omega
    rw [e2]
    exact Ev.now _
theorem rbits_ev (n : Nat) (h1 : 2 ≤ n) (h2 : n ≤ 4294967296) : Ev (fun k => gladstoneref60_bits.f k (n : Int)) ((wd n : Nat) : Int) := by
  have hw := wd_le n h2
  have h9 := wd_ge n
  have key : ∀ d i : Nat, 9 ≤ i → i + d = wd n → Ev (fun k => gladstoneref60_bits.l0 k (n : Int) (i : Int)) ((wd n : Nat) : Int) := by
    intro d
    induction d with
    | zero =>
      intro i hi hd
      have hlt := wd_lt n (by omega)
      refine Ev.step (f := fun _ => some ((wd n : Nat) : Int)) (fun k => ?_) (Ev.now _)
      rw [gladstoneref60_bits.l0, wu64 (by omega) (by omega), if_pos (by omega), shl64 (by omega) (by omega), w64 (by omega) (by omega), if_neg, show (i : Int) = ((wd n : Nat) : Int) by omega]
      have e : (2 : Int) ^ (i : Int).toNat = ((2 ^ i : Nat) : Int) := by rw [Int.toNat_natCast]; simp
      rw [e]
      rw [← hd, Nat.add_zero] at hlt
      omega
    | succ d ih =>
      intro i hi hd
      have hle := wd_le_pow (n := n) (i := i) (by omega) hi
      refine Ev.step (f := fun k => gladstoneref60_bits.l0 k (n : Int) ((i + 1 : Nat) : Int)) (fun k => ?_) (ih (i + 1) (by omega) (by omega))
      rw [gladstoneref60_bits.l0, wu64 (by omega) (by omega), if_pos (by omega), shl64 (by omega) (by omega), w64 (x := (n : Int) - 1) (by omega) (by omega), if_pos, w64 (x := (i : Int) + 1) (by omega) (by omega)]
      · rfl
      have e : (2 : Int) ^ (i : Int).toNat = ((2 ^ i : Nat) : Int) := by rw [Int.toNat_natCast]; simp
      rw [e]
      omega
  exact key (wd n - 9) 9 (by omega) (by omega)
end Go.Proofs.Ytnmggblhbodfgaa.Com
