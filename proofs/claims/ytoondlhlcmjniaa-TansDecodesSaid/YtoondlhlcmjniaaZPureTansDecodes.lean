/- tans: the plain law of TansDecodes. -/
import Derived.Test.YtoondlhlcmjniaaZPureTnD
import Derived.Test.YtoondlhlcmjniaaZPureTansNorms
import Derived.Test.YtoondlhlcmjniaaZPx11
set_option linter.unusedVariables false
set_option linter.unusedSimpArgs false
set_option linter.unusedSectionVars false
namespace Go.Proofs.Ytoondlhlcmjniaa.Pure
open Go Go.RowKit Go.Proofs.YtoondlhlcmjniaaW.PrintWords Go.Proofs.YtoondlhlcmjniaaW.PrintMore Go.Proofs.Ytoondlhlcmjniaa.P Go.Proofs.Ytoondlhlcmjniaa.Com Go.Proofs.Ytoondlhlcmjniaa.Hd
theorem dcL_len (B : List Nat) (norm : List Int) (nn N : Nat) (f : Nat → Nat) : ∀ (q x p : Nat) (out : List Int), (dcL B norm nn N f q x p out).1.length ≤ out.length + q := by
  intro q
  induction q with
  | zero => intro x p out; rw [dcL]; split <;> simp
  | succ q ih =>
    intro x p out
    rw [dcL]
    split
    · refine Nat.le_trans (ih _ _ _) ?_
      rw [List.length_append, List.length_singleton]; omega
    · exact Nat.zero_le _
theorem decT_len (s : ByteArray) (many : Int) (l : List Int) (n : Int) : (decT s many l n).1.length ≤ 1048576 := by
  unfold decT
  split
  · exact Nat.zero_le _
  · unfold dcT
    split
    · exact Nat.zero_le _
    · split
      · refine Nat.le_trans (dcL_len _ _ _ _ _ _ _ _ _) ?_
        rw [List.length_nil]; omega
      · exact Nat.zero_le _
theorem TansDecodes (s : ByteArray) (_ : s.size ≤ 140737488351232) (many : Int) (_ : (Lit.int .i64 many).wf = true) (l : List Int) (n : Int) : ∃ k, gladstonelaw59_TansDecodes.f k s many l n = some true := by
  apply Ev.rounds
  unfold gladstonelaw59_TansDecodes.f
  have hj : Ev (fun k => gladstonelaw59_TansDecodes.j0 k s many true l n) true := by
    refine Ev.step (f := fun _ => some true) (fun k => ?_) (Ev.now _)
    simp only [gladstonelaw59_TansDecodes.j0]
    rw [if_pos (by simp), awake_f']
  by_cases h1 : (s.size : Int) > 300
  · exact Ev.ifp h1 hj
  refine Ev.ifn h1 ?_
  by_cases h2 : (l.length : Int) > 300
  · exact Ev.ifp h2 hj
  refine Ev.ifn h2 ?_
  have hm : Ev (fun k => gladstonelaw59_TansDecodes.j0 k s many false l n) true := by
    refine Ev.step (fun k => by simp only [gladstonelaw59_TansDecodes.j0]; rfl) ?_
    refine Ev.ifn (by decide) ?_
    have e : tans_Decode.f s many l n = some (decT s many l n) := by
      unfold tans_Decode.f
      rw [if_pos (by omega)]
    refine Ev.bind (f := fun k t => _) (Ev.fixed e) ?_
    refine Ev.bind (f := fun k t => _) (rdec_ev s (by omega) many l (by omega) n) ?_
    refine Ev.bind (f := fun k t => _) (ints_ev _ (by have := decT_len s many l n; omega)) ?_
    refine Ev.ifp rfl (Ev.ifp rfl ?_)
    exact Ev.fixed awake_f'
  by_cases h3 : many > 400
  · refine Ev.ifp h3 ?_
    by_cases h4 : many ≤ 1048576
    · rw [decide_eq_true h4]; exact hj
    · rw [decide_eq_false h4]; exact hm
  · exact Ev.ifn h3 hm
end Go.Proofs.Ytoondlhlcmjniaa.Pure
