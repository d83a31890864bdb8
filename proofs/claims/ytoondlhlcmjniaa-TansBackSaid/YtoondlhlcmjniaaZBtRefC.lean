/- The document's bits (gladstoneref01, gladstoneref02), plainly: a word; Peek, Take. -/
import Derived.Test.YtoondlhlcmjniaaZBtRefB
import Derived.Test.YtoondlhlcmjniaaZBtRdB
import Derived.Test.YtoondlhlcmjniaaZPx9
set_option linter.unusedVariables false
set_option linter.unusedSimpArgs false
set_option linter.unusedSectionVars false
namespace Go.Proofs.Ytoondlhlcmjniaa.Com
open Go.RowKit Go.Proofs.YtoondlhlcmjniaaW.PrintWords Go.Proofs.YtoondlhlcmjniaaW.PrintMore Go.Proofs.Ytoondlhlcmjniaa.P Go.Proofs.Ytoondlhlcmjniaa.Hd
theorem word_end (l : List Bool) (n i : Nat) (hi : i ≤ n) (h : i = n ∨ l.length ≤ i) : bv (l.take i) = bv (l.take n) := by
  rcases h with rfl | h
  · rfl
  · rw [List.take_of_length_le h, List.take_of_length_le (by omega)]
theorem word_l0 (l : List Bool) (n : Nat) (hn : n ≤ 63) (d : Nat) : ∀ i : Nat, i + d = n → Ev (fun k => gladstoneref01_Word.l0 k l (n : Int) ((bv (l.take i) : Nat) : Int) (i : Int)) ((bv (l.take n) : Nat) : Int) := by
  induction d with
  | zero =>
    intro i hi
    obtain rfl : i = n := by omega
    refine Ev.step (f := fun k => gladstoneref01_Word.j1 k l (i : Int) ((bv (l.take i) : Nat) : Int) (i : Int) false) (fun k => ?_) (Ev.step (f := fun _ => some ((bv (l.take i) : Nat) : Int)) (fun k => ?_) (Ev.now _))
    · simp only [gladstoneref01_Word.l0]
      rw [if_neg (by omega)]
    · simp only [gladstoneref01_Word.j1]
      rw [if_neg (by simp)]
  | succ d ih =>
    intro i hi
    refine Ev.step (f := fun k => gladstoneref01_Word.j1 k l (n : Int) ((bv (l.take i) : Nat) : Int) (i : Int) (decide ((i : Int) < (l.length : Int)))) (fun k => ?_) ?_
    · simp only [gladstoneref01_Word.l0]
      rw [if_pos (by omega)]
    by_cases hl : i < l.length
    · rw [decide_eq_true (by omega)]
      have h := ih (i + 1) (by omega)
      have hlt := bv_lt (l.take i)
      rw [List.length_take_of_le (by omega)] at hlt
      have hpi : 2 ^ i ≤ 2 ^ 62 := Nat.pow_le_pow_right (by omega) (by omega)
      rw [take_snocB l i hl, bv_append, List.length_take_of_le (by omega)] at h
      cases hb : l.getD i false with
      | true =>
        rw [hb] at h
        refine Ev.step (fun k => ?_) h
        simp only [gladstoneref01_Word.j1]
        rw [if_pos trivial, if_pos (by omega), if_pos (by omega), rdOf_nat, hb, if_pos rfl, wu64 (x := (i : Int)) (by omega) (by omega), if_pos (by omega), w64 (by omega) (by omega)]
        have es := shl_nat 1 i (by omega) (by omega)
        have es1 : shl .u64 1 (i : Int) = ((1 * 2 ^ i : Nat) : Int) := es
        rw [es1, or_nat _ _ i hlt (by simp) (by omega) (by omega)]
        have e5 : bv [true] = 1 := rfl
        rw [e5, Nat.one_mul, Nat.mul_one]
        rfl
      | false =>
        rw [hb] at h
        refine Ev.step (fun k => ?_) h
        simp only [gladstoneref01_Word.j1]
        rw [if_pos trivial, if_pos (by omega), if_pos (by omega), rdOf_nat, hb, if_neg (by simp), w64 (by omega) (by omega)]
        have e5 : bv [false] = 0 := rfl
        rw [e5, Nat.mul_zero, Nat.add_zero]
        rfl
    · rw [decide_eq_false (by omega)]
      refine Ev.step (f := fun _ => some ((bv (l.take i) : Nat) : Int)) (fun k => ?_) (Ev.some (by rw [word_end l n i (by omega) (.inr (by omega))]))
      simp only [gladstoneref01_Word.j1]
      rw [if_neg (by simp)]
theorem word_ev (l : List Bool) (n : Nat) (hn : n ≤ 63) : Ev (fun k => gladstoneref01_Word.f k l (n : Int)) ((bv (l.take n) : Nat) : Int) := by
  have h := word_l0 l n hn n 0 (by omega)
  have e : bv (l.take 0) = 0 := rfl
  rw [e] at h
  exact h
theorem rnew_ev (s : ByteArray) (h : s.size ≤ 1099511627776) : Ev (fun k => gladstoneref02_New.f k s) (bb (nb s), 0) := by
  unfold gladstoneref02_New.f
  exact Ev.bind (bits_ev s h) (Ev.now _)

section
variable (B : List Nat) (hB : ∀ x ∈ B, x < 256) (hl : B.length ≤ 1099511627776) (p : Nat) (hp : p ≤ 8 * B.length) (a : Int)
include hB hl hp
theorem rpeek_ev : Ev (fun k => gladstoneref02_Peek.f k (bb B) (p : Int) a) (rpeek B p a) := by
  unfold gladstoneref02_Peek.f rpeek inW
  have hlen := bb_length B
  by_cases h1 : a < 0
  · refine Ev.ifp h1 ?_
    rw [decide_eq_false (by omega)]
    exact Ev.now _
  · refine Ev.ifn h1 ?_
    by_cases h2 : a > 56
    · refine Ev.ifp h2 ?_
      rw [decide_eq_false (by omega)]
      exact Ev.now _
    · refine Ev.ifn h2 (Ev.ifp (by omega) (Ev.ifp (by omega) ?_))
      rw [decide_eq_true (by omega), if_pos rfl]
      obtain ⟨n, rfl⟩ : ∃ n : Nat, a = n := ⟨a.toNat, by omega⟩
      refine Ev.bind (word_ev _ n (by omega)) (Ev.some ?_)
      rw [bv_take, Int.toNat_natCast, bv_drop, bv_bb B hB, Int.toNat_natCast]
      rfl
theorem reftake_ev : Ev (fun k => gladstoneref02_Take.f k (bb B) (p : Int) a) (bb B, (rtake B p a).2.2, (rtake B p a).1, (rtake B p a).2.1) := by
  have hlen := bb_length B
  have he : ∀ k, gladstoneref02_Take.f k (bb B) (p : Int) a = gladstoneref02_Take.j0 k a (!inW a) (bb B) (p : Int) := by
    intro k
    unfold gladstoneref02_Take.f inW
    by_cases h : a < 0
    · rw [if_pos h, decide_eq_false (by omega)]; rfl
    · rw [if_neg h]
      congr 1
      rw [Bool.eq_iff_iff]; simp; omega
  refine Ev.congr he ?_
  unfold rtake
  cases hw : inW a with
  | false => exact Ev.step (f := fun _ => some (bb B, (p : Int), 0, 2)) (fun k => by simp only [gladstoneref02_Take.j0]; rw [if_pos (by simp)]) (Ev.some (by simp))
  | true =>
    have hw2 := hw
    simp only [inW, decide_eq_true_eq] at hw2
    simp only [if_true]
    refine Ev.step (fun k => by simp only [gladstoneref02_Take.j0]; rw [if_neg (by simp), w64 (x := ((bb B).length : Int) - (p : Int)) (by omega) (by omega)]) ?_
    by_cases h : p + a.toNat ≤ 8 * B.length
    · rw [if_pos h]
      refine Ev.ifn (by omega) (Ev.bind (rpeek_ev B hB hl p hp a) (Ev.some ?_))
      unfold rpeek
      rw [hw, if_pos rfl, w64 (by omega) (by omega)]
      have e : ((p + a.toNat : Nat) : Int) = (p : Int) + a := by omega
      rw [e]
    · rw [if_neg h]
      exact Ev.ifp (by omega) (Ev.now _)
end
end Go.Proofs.Ytoondlhlcmjniaa.Com
