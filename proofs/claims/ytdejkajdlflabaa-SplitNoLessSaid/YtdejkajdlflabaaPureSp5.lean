/- The law SplitLeast. -/
import Derived.Test.YtdejkajdlflabaaPureSp4
set_option linter.unusedVariables false
set_option linter.unusedSimpArgs false
set_option linter.unusedSectionVars false
namespace Go.Proofs.Ytdejkajdlflabaa.Pure
open Go.RowKit Go.Proofs.YtdejkajdlflabaaW.PrintWords Go.Proofs.YtdejkajdlflabaaW.PrintMore Go.Proofs.Ytdejkajdlflabaa.Hd Go.Proofs.Ytdejkajdlflabaa.P Go.Proofs.Ytdejkajdlflabaa.Com Go.Proofs.Ytdejkajdlflabaa.Cn
attribute [local irreducible] W spd lgC
theorem awake_b : Ev (fun k => (gladstonelaw53_awake.f k).bind fun t => some t) true := Ev.bind (f := fun _ t => some t) awake_ev (Ev.now _)
theorem may_f (s : ByteArray) (a1 a2 : Int) : gladstonelaw53_may.f s a1 a2 = some (mayB s.size a1 a2) := by
  unfold gladstonelaw53_may.f mayB
  by_cases h1 : a1 < 1
  · rw [if_neg (by omega), decide_eq_true h1]; rfl
  rw [if_pos (by omega), decide_eq_false h1]
  by_cases h2 : 65536 < a1
  · rw [if_neg (by omega), decide_eq_true h2]; rfl
  rw [if_pos (by omega), decide_eq_false h2]
  by_cases h3 : a2 < 0
  · rw [if_neg (by omega), decide_eq_true h3]; rfl
  rw [if_pos (by omega), decide_eq_false h3]
  by_cases h4 : 1048576 < a2
  · rw [if_neg (by omega), decide_eq_true h4]; rfl
  rw [if_pos (by omega), decide_eq_false h4]
  by_cases h5 : 4096 < s.size
  · rw [decide_eq_true h5, decide_eq_false (by omega)]; rfl
  · rw [decide_eq_false h5, decide_eq_true (by omega)]; rfl
theorem may_ok {n : Nat} {a1 a2 : Int} (h : mayB n a1 a2 = true) : (1 ≤ a1 ∧ a1 ≤ 65536) ∧ (0 ≤ a2 ∧ a2 ≤ 1048576) ∧ n ≤ 4096 := by
  unfold mayB at h
  simp at h
  omega
theorem SplitLeast : gladstonelaw53_SplitLeast.Pure := by
  intro s a1 a2 hs0 _ _
  apply ev_get
  unfold gladstonelaw53_SplitLeast.f
  by_cases hs : (s.size : Int) > 11
  · exact Ev.ifp hs awake_b
  refine Ev.ifn hs ?_
  have hl := nb_length s
  simp only [split_Split.f, Option.bind_some, may_f]
  cases hm : mayB s.size a1 a2 with
  | false =>
    have hsp : splitP (nb s) a1 a2 = ([], 0, 1) := by unfold splitP; rw [hl, hm, if_neg (by decide)]
    rw [hsp]
    refine Ev.ifn (by decide) (Ev.ifp rfl (Ev.ifp rfl (Ev.ifp rfl ?_)))
    exact awake_b
  | true =>
    obtain ⟨h1, h2, h3⟩ := may_ok hm
    obtain ⟨m, hmm⟩ : ∃ m : Nat, a1 = m := ⟨a1.toNat, by omega⟩
    have hsp : splitP (nb s) a1 a2 = (zl (SZ m a2 (nb s)), (WF m a2 (nb s) 0).2, 0) := by
      unfold splitP
      rw [hl, hm, if_pos rfl, hmm, Int.toNat_natCast]
      unfold zl SZ WF
      rw [List.drop_zero, hl]
    rw [hsp, hmm]
    have hb := best_ev (m := m) (fee := a2) (by omega) h2 s.size s (Nat.le_refl _) h3
    refine Ev.ifp rfl (Ev.bind hb (Ev.ifp rfl ?_))
    have hz : (zl (SZ m a2 (nb s))).length ≤ 17592186044416 := by
      unfold zl
      rw [List.length_map]
      have := SZ_len (m := m) (fee := a2) (by omega) _ (nb s) (Nat.le_refl _)
      omega
    refine Ev.bind (ints_ev _ hz) (Ev.ifp rfl (Ev.ifp rfl ?_))
    rw [pcost s h3 a2 h2]
    simp only [Option.bind_some]
    exact Ev.bind (rcost_ev s h3 a2 h2) (Ev.ifp rfl awake_b)
end Go.Proofs.Ytdejkajdlflabaa.Pure
