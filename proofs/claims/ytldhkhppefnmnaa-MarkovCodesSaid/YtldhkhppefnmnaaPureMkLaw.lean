/- The plain law MarkovBack. -/
import Derived.Test.YtldhkhppefnmnaaPureMk
import Derived.Test.YtldhkhppefnmnaaPureRgEncA
import Derived.Test.YtldhkhppefnmnaaPx7
set_option linter.unusedVariables false
set_option linter.unusedSimpArgs false
set_option linter.unusedSectionVars false
namespace Go.Proofs.Ytldhkhppefnmnaa.Pure
open Go Go.RowKit Go.Proofs.YtldhkhppefnmnaaW.PrintWords Go.Proofs.YtldhkhppefnmnaaW.PrintMore Go.Proofs.Ytldhkhppefnmnaa.P Go.Proofs.Ytldhkhppefnmnaa.Com Go.Proofs.Ytldhkhppefnmnaa.Rn Go.Proofs.Ytldhkhppefnmnaa.Hd
theorem awake_f : gladstonelaw61_awake.f = some true := by decide +kernel
theorem awake_f' : ((gladstonelaw61_awake.f).bind fun t => some t) = some true := by rw [awake_f]; rfl
theorem MarkovBack : gladstonelaw61_MarkovBack.Pure := by
  intro s T hs hT
  apply Ev.rounds
  unfold gladstonelaw61_MarkovBack.f
  have hj : Ev (fun k => gladstonelaw61_MarkovBack.j0 k s T true) true := by
    refine Ev.step (f := fun _ => some true) (fun k => ?_) (Ev.now _)
    simp only [gladstonelaw61_MarkovBack.j0]
    rw [if_pos trivial, awake_f']
  by_cases h1 : (s.size : Int) > 2000
  · exact Ev.ifp h1 hj
  · refine Ev.ifn h1 ?_
    by_cases h2 : (T.size : Int) > 100
    · rw [decide_eq_true h2]; exact hj
    · rw [decide_eq_false h2]
      have hb := mk_back s T (by omega)
      have hz : (mkEnc s).1.size ≤ 100000 := by
        unfold mkEnc
        rw [if_neg (by omega)]
        have hl := mkT_len (nb s) ([], []) 0 CH0
        unfold encP
        split
        · exact Nat.zero_le _
        · split
          · exact Nat.zero_le _
          · split
            · exact Nat.zero_le _
            · show (strOfNums _).size ≤ _
              rw [str_size]
              have h := enc_len (mkT (nb s) ([], []) 0 CH0).1 (mkT (nb s) ([], []) 0 CH0).2 0 4294967295
              have hn := nb_length s
              simp at hl
              omega
      refine Ev.step (f := fun _ => some true) (fun k => ?_) (Ev.now _)
      simp only [gladstonelaw61_MarkovBack.j0, markov_Encode.f, markov_Decode.f, Option.bind_some]
      rw [if_neg (by decide), if_pos (by omega), hb.2, if_pos hb.1, if_pos rfl, if_pos rfl, awake_f']
end Go.Proofs.Ytldhkhppefnmnaa.Pure
