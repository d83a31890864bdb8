/- The range coder, plainly: what bits leave, and which bytes go. -/
import Derived.Test.YtdifgiceallpiaaDoorZCom
set_option linter.unusedVariables false
set_option linter.unusedSimpArgs false
set_option linter.unusedSectionVars false
namespace Go.Proofs.YtdifgiceallpiaaDoor.Rn
open Go Go.RowKit Go.Proofs.YtdifgiceallpiaaDoorW.PrintWords Go.Proofs.YtdifgiceallpiaaDoor.Com
def mid (a b p : Nat) : Nat := a + (b - a) / 2048 * p
def tk (a b p : Nat) (bit : Bool) : Nat × Nat := if bit then (mid a b p + 1, b) else (a, mid a b p)
def sa (a : Nat) : Nat := a % 16777216 * 256
def sb (b : Nat) : Nat := b % 16777216 * 256 + 255
/-- Bytes that go, and what is left. -/
def norm : Nat → Nat → Nat → List Nat × Nat × Nat
  | 0, a, b => ([], a, b)
  | f + 1, a, b => if a / 16777216 = b / 16777216 then (a / 16777216 :: (norm f (sa a) (sb b)).1, (norm f (sa a) (sb b)).2) else ([], a, b)
theorem mid_le {a b p : Nat} (h : a ≤ b) (hp : p ≤ 2048) : a ≤ mid a b p ∧ mid a b p ≤ b := by
  unfold mid
  have h1 : (b - a) / 2048 * p ≤ (b - a) / 2048 * 2048 := Nat.mul_le_mul_left _ hp
  have h2 := Nat.div_mul_le_self (b - a) 2048
  omega
theorem mid_lt {a b p : Nat} (h : a < b) (hp : p < 2048) : mid a b p < b := by
  unfold mid
  by_cases e : (b - a) / 2048 = 0
  · rw [e]; omega
  · have h1 : (b - a) / 2048 * p ≤ (b - a) / 2048 * 2047 := Nat.mul_le_mul_left _ (by omega)
    have h2 := Nat.div_mul_le_self (b - a) 2048
    omega
theorem tk_ok {a b p : Nat} {bit : Bool} (h : a < b) (hp : p < 2048) : a ≤ (tk a b p bit).1 ∧ (tk a b p bit).1 ≤ (tk a b p bit).2 ∧ (tk a b p bit).2 ≤ b := by
  have h1 := mid_le (Nat.le_of_lt h) (Nat.le_of_lt hp)
  have h2 := mid_lt h hp
  unfold tk
  cases bit
  · exact ⟨Nat.le_refl _, h1.1, h1.2⟩
  · exact ⟨by show a ≤ mid a b p + 1; omega, by show mid a b p + 1 ≤ b; omega, Nat.le_refl _⟩
/-- So wide are the spans that have let so many bytes go. -/
def Wd (f a b : Nat) : Prop := a ≤ b ∧ b < 4294967296 ∧ 256 ^ (4 - f) ≤ b - a + 1 ∧ f ≤ 4
theorem Wd.start {a b : Nat} (h : a ≤ b) (hb : b < 4294967296) : Wd 4 a b := ⟨h, hb, by simp, Nat.le_refl _⟩
theorem Wd.zero {a b : Nat} (h : Wd 0 a b) : a / 16777216 ≠ b / 16777216 := by
  obtain ⟨h1, h2, h3, h4⟩ := h
  have e : 256 ^ (4 - 0) = 4294967296 := by decide
  rw [e] at h3
  omega
theorem Wd.step {f a b : Nat} (h : Wd (f + 1) a b) (e : a / 16777216 = b / 16777216) : Wd f (sa a) (sb b) := by
  obtain ⟨h1, h2, h3, h4⟩ := h
  have e4 : 4 - f = (4 - (f + 1)) + 1 := by omega
  unfold sa sb
  refine ⟨by omega, by omega, ?_, by omega⟩
  rw [e4, Nat.pow_succ]
  have h5 : b % 16777216 - a % 16777216 = b - a := by omega
  omega
theorem norm_end {f a b : Nat} (h : Wd f a b) : (norm f a b).2.1 / 16777216 ≠ (norm f a b).2.2 / 16777216 ∧ (norm f a b).2.1 < (norm f a b).2.2 ∧ (norm f a b).2.2 < 4294967296 ∧ ∀ x ∈ (norm f a b).1, x < 256 := by
  induction f generalizing a b with
  | zero =>
    have h0 := h.zero
    obtain ⟨h1, h2, _, _⟩ := h
    exact ⟨h0, by show a < b; omega, h2, by simp [norm]⟩
  | succ f ih =>
    rw [norm]
    by_cases e : a / 16777216 = b / 16777216
    · rw [if_pos e]
      obtain ⟨i1, i2, i3, i4⟩ := ih (h.step e)
      refine ⟨i1, i2, i3, fun x hx => ?_⟩
      rcases List.mem_cons.1 hx with rfl | hx
      · have := h.1; have := h.2.1; omega
      · exact i4 x hx
    · rw [if_neg e]
      obtain ⟨h1, h2, _, _⟩ := h
      exact ⟨e, by show a < b; omega, h2, by simp⟩
end Go.Proofs.YtdifgiceallpiaaDoor.Rn
