/- markov, plainly: a text is decoded as it was, whatever is behind. -/
import Derived.Test.YtldhkhppefnmnaaHMk
import Derived.Test.YtldhkhppefnmnaaPureCh
set_option linter.unusedVariables false
set_option linter.unusedSimpArgs false
set_option linter.unusedSectionVars false
namespace Go.Proofs.Ytldhkhppefnmnaa.Pure
open Go Go.RowKit Go.Proofs.YtldhkhppefnmnaaW.PrintWords Go.Proofs.YtldhkhppefnmnaaW.PrintMore Go.Proofs.Ytldhkhppefnmnaa.P Go.Proofs.Ytldhkhppefnmnaa.Com Go.Proofs.Ytldhkhppefnmnaa.Rn Go.Proofs.Ytldhkhppefnmnaa.Hd
theorem mkT_tr (t : List Nat) : (∀ x ∈ t, x < 256) → ∀ (last : Nat) (CH : List (List Int)), last < 256 → CH.length = 256 → FineR CH →
    ∃ (bs : List Bool) (ps : List Int), bs.length = ps.length ∧ (∀ p ∈ ps, 31 ≤ p ∧ p ≤ 2017) ∧ (∀ st, mkT t st last CH = (st.1 ++ bs, st.2 ++ ps)) ∧ (∀ d, dec ps d = bs → mkD t.length d last CH = t) := by
  induction t with
  | nil =>
    intro _ last CH _ _ _
    exact ⟨[], [], rfl, by simp, fun st => by simp [mkT], fun d _ => rfl⟩
  | cons c t ih =>
    intro ht last CH hl hlc hF
    have hc := ht c List.mem_cons_self
    obtain ⟨bs, ps, ch', h1, h2, h3, h4, h5, h6, h7⟩ := wk_tr 8 c 8 (Nat.le_refl _) 1 (CH.getD last []) (by decide) (hF last hl).1 (hF last hl).2
    have e256 : (2 : Nat) ^ 8 = 256 := by decide
    rw [e256] at h4 h6 h7
    have hcm : c % 256 = c := Nat.mod_eq_of_lt hc
    rw [hcm] at h6 h7
    have es : 1 * 256 + c - 256 = c := by omega
    obtain ⟨bs2, ps2, g1, g2, g3, g4⟩ := ih (fun z hz => ht z (List.mem_cons_of_mem _ hz)) c (CH.set last ch') hc (by rw [List.length_set]; exact hlc) (hF.set hlc hl h4 h5)
    refine ⟨bs ++ bs2, ps ++ ps2, by simp [h1, h2, g1], ?_, fun st => ?_, fun d h => ?_⟩
    · intro p hp
      rcases List.mem_append.1 hp with hp | hp
      · exact h3 p hp
      · exact g2 p hp
    · rw [mkT, h6]
      simp only [es]
      rw [g3]
      simp
    · obtain ⟨d', e1, e2⟩ := h7 d ps2 bs2 h
      rw [List.length_cons, mkD, e1]
      simp only [es]
      rw [g4 d' e2]
theorem zi_nb (s : ByteArray) : strOfNums (zi (nb s)) = s := nb_inj (nb_str (nb s) (nb_lt s))
theorem mk_back (s T : ByteArray) (hs : s.size ≤ 16777216) : (mkEnc s).2 = 0 ∧ mkDec ((mkEnc s).1 ++ T) (s.size : Int) = (s, 0) := by
  obtain ⟨bs, ps, h1, h2, h3, h4⟩ := mkT_tr (nb s) (nb_lt s) 0 CH0 (by decide) List.length_replicate CH0_fine
  have e : mkEnc s = encP bs ps := by
    unfold mkEnc
    rw [if_neg (by omega), h3]
    rfl
  have hb := back bs ps T h1 (fun p hp => by have := h2 p hp; omega)
  rw [e]
  refine ⟨hb.2, ?_⟩
  unfold mkDec
  have h5 := h4 _ hb.1
  rw [nb_length] at h5
  rw [if_neg (by omega), Int.toNat_natCast, h5, zi_nb]
end Go.Proofs.Ytldhkhppefnmnaa.Pure
