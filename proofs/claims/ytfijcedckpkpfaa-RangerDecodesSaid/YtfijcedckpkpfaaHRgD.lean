/- ranger.New and Bit, in the form that the print takes. -/
import Derived.Test.YtfijcedckpkpfaaHRgN
import Derived.Test.YtfijcedckpkpfaaPx1
set_option linter.unusedVariables false
set_option linter.unusedSimpArgs false
set_option linter.unusedSectionVars false
namespace Go.Proofs.Ytfijcedckpkpfaa.Hd
open Go.RowKit Go.Proofs.YtfijcedckpkpfaaW.PrintWords Go.Proofs.YtfijcedckpkpfaaW.PrintLast Go.Proofs.YtfijcedckpkpfaaW.PrintMore Go.Proofs.Ytfijcedckpkpfaa.Hw Go.Proofs.Ytfijcedckpkpfaa.Com Go.Proofs.Ytfijcedckpkpfaa.Rn Go.Proofs.Ytfijcedckpkpfaa.P
def ranger_New.f (s : ByteArray) : Option (Int × Int × Int × ByteArray) := some (0, 4294967295, ((nit 4 0 s).1 : Int), (nit 4 0 s).2)
theorem ranger_New.calls (a0 : ByteArray) (r1 r2 r3 : Int) (r4 : ByteArray) (w0 w : World) (hB : Below w0.heap.size w0 w) (h : ranger_New.f a0 = some (r1, r2, r3, r4)) :
    Calls Try.prog 13 #[.string a0] w fun e w' => ∃ g_ : Nat, e = .returned (.pointer (some ⟨g_, 0, none⟩)) ∧ IsS62 w0 w' g_ r1 r2 r3 r4 ∧ Below w0.heap.size w0 w' ∧ Below w.heap.size w w' := by
  simp only [ranger_New.f, Option.some.injEq, Prod.mk.injEq] at h
  obtain ⟨rfl, rfl, rfl, rfl⟩ := h
  refine (New_calls a0 w).mono ?_
  rintro e w' ⟨g, rfl, hg, hS, hb⟩
  exact ⟨g, rfl, ⟨hS, Nat.le_trans hB.size hg⟩, below_step hB hb, hb⟩
def dOf (a b x : Int) (s : ByteArray) : Ds := (a.toNat, b.toNat, x.toNat, s)
def ranger_Decoder_Bit.f (a b x : Int) (s : ByteArray) (p : Int) : Option (Bool × Int × Int × Int × Int × ByteArray) :=
  if 0 ≤ a ∧ a < b ∧ b < 4294967296 ∧ 0 ≤ x ∧ x < 4294967296 then
    if badP p = true then some (false, 2, a, b, x, s)
    else some (dB (dOf a b x s) p.toNat, 0, ((dN (dOf a b x s) p.toNat).1 : Int), ((dN (dOf a b x s) p.toNat).2.1 : Int), ((dN (dOf a b x s) p.toNat).2.2.1 : Int), (dN (dOf a b x s) p.toNat).2.2.2)
  else none
theorem ranger_Decoder_Bit.calls (g : Nat) (a b x : Int) (s : ByteArray) (p : Int) (r1 : Bool) (r2 : Int) (q0 q1 q2 : Int) (q3 : ByteArray) (w0 w : World) (hi : IsS62 w0 w g a b x s) (hB : Below w0.heap.size w0 w) (h : ranger_Decoder_Bit.f a b x s p = some (r1, r2, q0, q1, q2, q3)) :
    Calls Try.prog 15 #[.pointer (some ⟨g, 0, none⟩), .int .i64 p] w fun e w' => e = .returned (.tuple #[.bool r1, .int .i64 r2]) ∧ IsS62 w0 w' g q0 q1 q2 q3 ∧ Below w0.heap.size w0 w' ∧ KeepBut w w' g none := by
  unfold ranger_Decoder_Bit.f at h
  by_cases hk : 0 ≤ a ∧ a < b ∧ b < 4294967296 ∧ 0 ≤ x ∧ x < 4294967296
  · rw [if_pos hk] at h
    cases hp : badP p with
    | true =>
      rw [hp, if_pos rfl] at h
      simp only [Option.some.injEq, Prod.mk.injEq] at h
      obtain ⟨rfl, rfl, rfl, rfl, rfl, rfl⟩ := h
      refine (Bit_bad g p w hp).mono ?_
      rintro e w' ⟨rfl, hb⟩
      exact ⟨rfl, hi.below hb, below_step hB hb, KeepBut.of_below hb g none⟩
    | false =>
      rw [hp, if_neg (by decide)] at h
      simp only [Option.some.injEq, Prod.mk.injEq] at h
      obtain ⟨rfl, rfl, rfl, rfl, rfl, rfl⟩ := h
      have hpr : 1 ≤ p ∧ p ≤ 2047 := by
        unfold badP at hp
        rw [decide_eq_false_iff_not] at hp
        omega
      obtain ⟨a, rfl⟩ : ∃ n : Nat, a = n := ⟨a.toNat, by omega⟩
      obtain ⟨b, rfl⟩ : ∃ n : Nat, b = n := ⟨b.toNat, by omega⟩
      obtain ⟨x, rfl⟩ : ∃ n : Nat, x = n := ⟨x.toNat, by omega⟩
      obtain ⟨p, rfl⟩ : ∃ n : Nat, p = n := ⟨p.toNat, by omega⟩
      have ed : dOf (a : Int) b x s = (a, b, x, s) := by simp [dOf]
      rw [ed, Int.toNat_natCast]
      obtain ⟨hh, hg⟩ := hi
      refine (Bit_d g (a, b, x, s) p w hh ⟨by show a < b; omega, by show b < _; omega, by show x < _; omega⟩ (by omega) (by omega)).mono ?_
      rintro e w' ⟨rfl, hS, hG⟩
      exact ⟨rfl, ⟨hS, hg⟩, below_grown hB hG hg hB.size, keep_of_grown hG⟩
  · rw [if_neg hk] at h
    cases h
end Go.Proofs.Ytfijcedckpkpfaa.Hd
