/- suffix: the plain law of SuffixSorts. -/
import Derived.Test.YtchieiajpocpmaaPureSuf
import Derived.Test.YtchieiajpocpmaaPx4
set_option linter.unusedVariables false
set_option linter.unusedSimpArgs false
set_option linter.unusedSectionVars false
namespace Go.Proofs.Ytchieiajpocpmaa.Pure
open Go Go.RowKit Go.Proofs.Ytchieiajpocpmaa.P Go.Proofs.YtchieiajpocpmaaW.PrintWords Go.Proofs.YtchieiajpocpmaaW.PrintLast Go.Proofs.Ytchieiajpocpmaa.Com Go.Proofs.Ytchieiajpocpmaa.Hd Go.Proofs.Ytchieiajpocpmaa.Hw Go.Proofs.Ytchieiajpocpmaa.Cn Go.Proofs.Ytchieiajpocpmaa.Sais Go.Proofs.Ytchieiajpocpmaa.Bk
theorem is_ev {s : ByteArray} (hs : s.size ≤ 1073741824) (l : List Int) (hl : l.length ≤ 140737488355328) : Ev (fun k => suffix_Is.f k s l) (decide (l = iN (srtN (nb s)))) := by
  have e : suffix_Sort.f s = some (iN (srtN (nb s))) := by unfold suffix_Sort.f; rw [if_pos hs]
  unfold suffix_Is.f
  rw [e]
  simp only [Option.bind_some]
  exact Ev.bind (f := fun _ t => some t) (seq_ev l _ hl) (Ev.now _)
theorem SuffixSorts : gladstonelaw19_SuffixSorts.Pure := by
  intro s a _ _ _ _
  refine Ev.rounds ?_
  unfold gladstonelaw19_SuffixSorts.f
  have big : Ev (fun k => gladstonelaw19_SuffixSorts.j0 k s a true) true := by
    refine Ev.step (f := fun k => (gladstonelaw19_awake.f k).bind fun t => some t) (fun k => ?_) (Ev.bind (f := fun _ t => some t) awake_ev (Ev.now _))
    simp only [gladstonelaw19_SuffixSorts.j0]
    rfl
  by_cases h1 : (s.size : Int) > 400
  · exact Ev.ifp h1 big
  · refine Ev.ifn h1 ?_
    by_cases h2 : (a.length : Int) > 400
    · rw [decide_eq_true h2]; exact big
    · rw [decide_eq_false h2]
      have hs : s.size ≤ 1073741824 := by omega
      have ha : a.length ≤ 1073741824 := by omega
      have e : suffix_Sort.f s = some (iN (srtN (nb s))) := by unfold suffix_Sort.f; rw [if_pos hs]
      have e2 : suffix_Ranks.f a = some (tabn a.length (rkF a.length (upto a a.length))) := by unfold suffix_Ranks.f; rw [if_pos ha]
      have hlen : (iN (srtN (nb s))).length ≤ 140737488355328 := by rw [iN_len, (srtN_ok (nb s)).p.len, nb_length]; omega
      obtain ⟨W, hW⟩ : ∃ W, iN (srtN (nb s)) = W := ⟨_, rfl⟩
      have hse := sort_ev hs
      have hie := is_ev hs a (by omega)
      have hiw := is_ev hs W (by rw [← hW]; exact hlen)
      rw [hW] at e hlen hse hie hiw
      obtain ⟨R, hR⟩ : ∃ R, tabn a.length (rkF a.length (upto a a.length)) = R := ⟨_, rfl⟩
      have hre := ranks_ev ha
      have hRl : R.length ≤ 140737488355328 := by rw [← hR, tabn_length]; omega
      rw [hR] at e2 hre
      have i1 := ints_ev W W hlen
      have i2 := ints_ev R R hRl
      have i3 := ints_ev a W (by omega)
      rw [decide_eq_true rfl] at i1 i2 hiw
      refine Ev.step (fun k => by simp only [gladstonelaw19_SuffixSorts.j0]; rfl) ?_
      refine Ev.ifn (by simp) ?_
      refine Ev.bind (f := fun k t194 => _) hse ?_
      rw [e, e2]
      simp only [Option.bind_some]
      refine Ev.bind (f := fun k t => _) i1 ?_
      refine Ev.ifp rfl ?_
      refine Ev.bind (f := fun k t => _) hre ?_
      refine Ev.bind (f := fun k t => _) i2 ?_
      refine Ev.ifp rfl ?_
      refine Ev.bind (f := fun k t => _) hie ?_
      refine Ev.bind (f := fun k t => _) i3 ?_
      refine Ev.ifp (by simp) ?_
      refine Ev.bind (f := fun k t => _) hiw ?_
      refine Ev.ifp rfl ?_
      exact Ev.bind (f := fun _ t => some t) awake_ev (Ev.now _)
end Go.Proofs.Ytchieiajpocpmaa.Pure
