/- The document's decoder (chapter 45), plainly: New and Bit. -/
import Derived.Test.YtldhkhppefnmnaaPureRgEncA
import Derived.Test.YtldhkhppefnmnaaHRgA
import Derived.Test.YtldhkhppefnmnaaPx5
set_option linter.unusedVariables false
set_option linter.unusedSimpArgs false
set_option linter.unusedSectionVars false
namespace Go.Proofs.Ytldhkhppefnmnaa.Pure
open Go Go.RowKit Go.Proofs.YtldhkhppefnmnaaW.PrintWords Go.Proofs.YtldhkhppefnmnaaW.PrintMore Go.Proofs.Ytldhkhppefnmnaa.P Go.Proofs.Ytldhkhppefnmnaa.Com Go.Proofs.Ytldhkhppefnmnaa.Rn Go.Proofs.Ytldhkhppefnmnaa.Hd
theorem next_f (a b : Int) (x : Nat) (s : ByteArray) (hx : x < 4294967296) : gladstoneref45_next.f a b (x : Int) s = some (a, b, (nxX x s : Int), nxS s) := by
  unfold gladstoneref45_next.f
  rw [if_pos (by omega), Int.toNat_natCast]
theorem new_l0 (a b : Int) (d : Nat) : ∀ (i x : Nat) (s : ByteArray), i + d = 4 → x < 4294967296 → Ev (fun k => gladstoneref45_New.l0 k (i : Int) a b (x : Int) s) (a, b, ((nit d x s).1 : Int), (nit d x s).2) := by
  induction d with
  | zero =>
    intro i x s hi hx
    refine Ev.step (f := fun _ => some (a, b, (x : Int), s)) (fun k => ?_) (Ev.now _)
    simp only [gladstoneref45_New.l0]
    rw [if_neg (by omega)]
  | succ d ih =>
    intro i x s hi hx
    refine Ev.step (fun k => ?_) (ih (i + 1) (nxX x s) (nxS s) (by omega) (nxX_lt x s))
    simp only [gladstoneref45_New.l0]
    rw [if_pos (by omega), next_f a b x s hx, w64 (x := (i : Int) + 1) (by omega) (by omega)]
    rfl
theorem new_ev (s : ByteArray) : Ev (fun k => gladstoneref45_New.f k s) (0, 4294967295, ((nit 4 0 s).1 : Int), (nit 4 0 s).2) := new_l0 0 4294967295 4 0 0 s rfl (by decide)
theorem bit_l0 (bit : Bool) (gone : ByteArray) (hg : gone.size ≤ 1000000) (a b : Int) (d : Nat) : ∀ (i x : Nat) (s : ByteArray), i + d = gone.size → x < 4294967296 → Ev (fun k => gladstoneref45_Bit.l0 k bit gone (i : Int) a b (x : Int) s) (a, b, ((nit d x s).1 : Int), (nit d x s).2, bit, 0) := by
  induction d with
  | zero =>
    intro i x s hi hx
    refine Ev.step (f := fun _ => some (a, b, (x : Int), s, bit, 0)) (fun k => ?_) (Ev.now _)
    simp only [gladstoneref45_Bit.l0]
    rw [if_neg (by omega)]
  | succ d ih =>
    intro i x s hi hx
    refine Ev.step (fun k => ?_) (ih (i + 1) (nxX x s) (nxS s) (by omega) (nxX_lt x s))
    simp only [gladstoneref45_Bit.l0]
    rw [if_pos (by omega), next_f a b x s hx, w64 (x := (i : Int) + 1) (by omega) (by omega)]
    rfl
theorem nrm_norm (f : Nat) : ∀ (a b x : Nat) (s : ByteArray), nrm f a b x s = ((norm f a b).2.1, (norm f a b).2.2, (nit (norm f a b).1.length x s).1, (nit (norm f a b).1.length x s).2) := by
  induction f with
  | zero => intro a b x s; rfl
  | succ f ih =>
    intro a b x s
    rw [norm, nrm]
    by_cases e : a / 16777216 = b / 16777216
    · rw [if_pos e, if_pos e, ih]
      rfl
    · rw [if_neg e, if_neg e]
      rfl
theorem bit_ev (d : Ds) (p : Nat) (ho : OkD d) (hp1 : 1 ≤ p) (hp : p ≤ 2047) :
    Ev (fun k => gladstoneref45_Bit.f k (d.1 : Int) (d.2.1 : Int) (d.2.2.1 : Int) d.2.2.2 (p : Int)) (((dN d p).1 : Int), ((dN d p).2.1 : Int), ((dN d p).2.2.1 : Int), (dN d p).2.2.2, dB d p, 0) := by
  obtain ⟨a, b, x, s⟩ := d
  obtain ⟨hab, hb, hx⟩ := ho
  have hm := mid_f a b p (Nat.le_of_lt hab) hb (by omega)
  unfold ranger_span_middle.f at hm
  have hm := Option.some.inj hm
  have hbit : decide ((x : Int) > (mid a b p : Int)) = dB (a, b, x, s) p := decide_eq_decide.2 ⟨fun h => by show mid a b p < x; omega, fun h => by have h2 : mid a b p < x := h; omega⟩
  have hfit : gladstoneref44_Fits.f (p : Int) = some true := by
    rw [fits_f]; unfold badP; rw [decide_eq_false (by omega)]; rfl
  have hlen := norm_len 4 (tk a b p (dB (a, b, x, s) p)).1 (tk a b p (dB (a, b, x, s) p)).2
  show Ev (fun k => gladstoneref45_Bit.f k (a : Int) (b : Int) (x : Int) s (p : Int)) _
  unfold gladstoneref45_Bit.f
  rw [hfit, hm, hbit]
  simp only [Option.bind_some]
  refine Ev.ifp trivial ?_
  refine Ev.bind (part_ev a b p x s (dB (a, b, x, s) p) hab hb hp) ?_
  have h := bit_l0 (dB (a, b, x, s) p) (strOfNums (zi (norm 4 (tk a b p (dB (a, b, x, s) p)).1 (tk a b p (dB (a, b, x, s) p)).2).1)) (by rw [str_size]; simp [zi]; omega) ((norm 4 (tk a b p (dB (a, b, x, s) p)).1 (tk a b p (dB (a, b, x, s) p)).2).2.1 : Int) ((norm 4 (tk a b p (dB (a, b, x, s) p)).1 (tk a b p (dB (a, b, x, s) p)).2).2.2 : Int) (norm 4 (tk a b p (dB (a, b, x, s) p)).1 (tk a b p (dB (a, b, x, s) p)).2).1.length 0 x s (by rw [str_size]; simp [zi]) hx
  have e : dN (a, b, x, s) p = ((norm 4 (tk a b p (dB (a, b, x, s) p)).1 (tk a b p (dB (a, b, x, s) p)).2).2.1, (norm 4 (tk a b p (dB (a, b, x, s) p)).1 (tk a b p (dB (a, b, x, s) p)).2).2.2, (nit (norm 4 (tk a b p (dB (a, b, x, s) p)).1 (tk a b p (dB (a, b, x, s) p)).2).1.length x s).1, (nit (norm 4 (tk a b p (dB (a, b, x, s) p)).1 (tk a b p (dB (a, b, x, s) p)).2).1.length x s).2) := nrm_norm 4 _ _ x s
  rw [e]
  exact h
theorem bit_bad (a b x : Int) (s : ByteArray) (p : Int) (hp : badP p = true) : Ev (fun k => gladstoneref45_Bit.f k a b x s p) (a, b, x, s, false, 2) := by
  unfold gladstoneref45_Bit.f
  rw [fits_f, hp]
  simp only [Option.bind_some]
  exact Ev.ifn (by decide) (Ev.now _)
end Go.Proofs.Ytldhkhppefnmnaa.Pure
