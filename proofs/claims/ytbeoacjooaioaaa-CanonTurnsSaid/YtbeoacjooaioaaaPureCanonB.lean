/- The plain laws of chapter 8: turned twice; no code begins another. -/
import Derived.Test.YtbeoacjooaioaaaPureCanon
set_option linter.unusedVariables false
set_option linter.unusedSimpArgs false
set_option linter.unusedSectionVars false
namespace Go.Proofs.Ytbeoacjooaioaaa.Pure
open Go.RowKit Go.Proofs.YtbeoacjooaioaaaW.PrintWords Go.Proofs.YtbeoacjooaioaaaW.PrintMore Go.Proofs.Ytbeoacjooaioaaa.P Go.Proofs.Ytbeoacjooaioaaa.Com Go.Proofs.Ytbeoacjooaioaaa.Cn Go.Proofs.Ytbeoacjooaioaaa.Hd
attribute [local irreducible] ord pos

/-! ### turned twice -/
theorem T_bv (c : Nat) (i : Nat) : T (c : Int) i = (bv ((nbits i c).reverse) : Int) := by
  induction i with
  | zero => rfl
  | succ i ih =>
    have e1 : nbits (i + 1) c = nbits i c ++ nbits 1 (c / 2 ^ i) := nbits_add i 1 c
    have e2 : nbits 1 (c / 2 ^ i) = [c / 2 ^ i % 2 == 1] := rfl
    rw [e1, e2, List.reverse_append]
    simp only [T, List.reverse_cons, List.reverse_nil, List.nil_append, List.cons_append]
    rw [ih]
    have e3 : ((c : Int) / 2 ^ i % 2) = ((c / 2 ^ i % 2 : Nat) : Int) := by simp
    rw [e3]
    simp only [bv]
    by_cases h : c / 2 ^ i % 2 = 1
    · rw [h]; simp; omega
    · have h0 : c / 2 ^ i % 2 = 0 := by omega
      rw [h0]; simp
theorem T_twice (c : Nat) (n : Nat) (h : c < 2 ^ n) : T (T (c : Int) n) n = (c : Int) := by
  rw [T_bv c n, T_bv]
  have e : nbits n (bv (nbits n c).reverse) = (nbits n c).reverse := by
    refine bv_inj (by rw [nbits_length, List.length_reverse, nbits_length]) ?_
    rw [bv_nbits, Nat.mod_eq_of_lt]
    have := bv_lt (nbits n c).reverse
    rw [List.length_reverse, nbits_length] at this
    exact this
  rw [e, List.reverse_reverse, bv_nbits, Nat.mod_eq_of_lt h]
theorem mask32 (c : Int) (h0 : 0 ≤ c) (h1 : c ≤ 4294967295) (k : Nat) (hk : k ≤ 32) : ∃ x : Nat, x < 2 ^ k ∧ Go.bits .and .i64 (wrap64 c) (wrap64 (shl .i64 1 (k : Int) - 1)) = (x : Int) := by
  obtain ⟨n, rfl⟩ : ∃ n : Nat, c = n := ⟨c.toNat, by omega⟩
  have hp := pow32 hk
  have hp2 : ((2 ^ k : Nat) : Int) = 2 ^ k := by simp
  have hp3 := Nat.two_pow_pos k
  have e1 : shl .i64 1 (k : Int) = 2 ^ k := by rw [shl64 (by omega) (by omega), Int.toNat_natCast]
  have e2 : ((2 : Int) ^ k - 1) = ((2 ^ k - 1 : Nat) : Int) := by omega
  rw [w64 (x := (n : Int)) (by omega) (by omega), e1, w64 (x := (2 : Int) ^ k - 1) (by omega) (by omega), e2, (bits_i64 n (2 ^ k - 1) (by omega) (by omega)).1, Nat.and_two_pow_sub_one_eq_mod]
  exact ⟨n % 2 ^ k, Nat.mod_lt _ hp3, rfl⟩
theorem CanonTurns : gladstonelaw08_CanonTurns.Pure := by
  intro c n hc hn
  have hc1 : 0 ≤ c ∧ c ≤ 4294967295 := by simp [Lit.wf, IntKind.min, IntKind.max, IntKind.bits, IntKind.signed] at hc; omega
  have hn1 : 0 ≤ n ∧ n ≤ 255 := by simp [Lit.wf, IntKind.min, IntKind.max, IntKind.bits, IntKind.signed] at hn; omega
  obtain ⟨m, hm, hm32⟩ : ∃ m : Nat, wrap64 (Int.tmod n 33) = m ∧ m ≤ 32 := by
    have e : Int.tmod n 33 = n % 33 := Int.tmod_eq_emod_of_nonneg hn1.1
    refine ⟨(n % 33).toNat, ?_, by omega⟩
    rw [e, w64 (by omega) (by omega)]; omega
  obtain ⟨x, hx, ex⟩ := mask32 c hc1.1 hc1.2 m hm32
  have eu : IntKind.u64.wrap (m : Int) = m := wu64 (by omega) (by omega)
  have ht : turn (x : Int) (m : Int) = T (x : Int) m := by unfold turn; rw [if_neg (by omega), Int.toNat_natCast]
  have ht2 : turn (T (x : Int) m) (m : Int) = (x : Int) := by unfold turn; rw [if_neg (by omega), Int.toNat_natCast, T_twice x m hx]
  have h : Ev (fun k => gladstonelaw08_CanonTurns.f k c n) true := by
    unfold gladstonelaw08_CanonTurns.f
    rw [hm, eu, ex]
    refine Ev.ifp (by omega) ?_
    refine Ev.bind (turned_ev _ _) ?_
    rw [ht]
    refine Ev.bind (turned_ev _ _) ?_
    rw [ht2]
    exact Ev.ifp rfl awake_ev'
  exact ev_get h
end Go.Proofs.Ytbeoacjooaioaaa.Pure
