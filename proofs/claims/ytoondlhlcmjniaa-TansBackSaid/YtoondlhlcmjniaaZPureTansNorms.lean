/- tans: the plain law of TansNorms. -/
import Derived.Test.YtoondlhlcmjniaaZPureTnN
import Derived.Test.YtoondlhlcmjniaaZHAwake59
import Derived.Test.YtoondlhlcmjniaaZPx8
set_option linter.unusedVariables false
set_option linter.unusedSimpArgs false
set_option linter.unusedSectionVars false
namespace Go.Proofs.Ytoondlhlcmjniaa.Pure
open Go Go.RowKit Go.Proofs.YtoondlhlcmjniaaW.PrintWords Go.Proofs.YtoondlhlcmjniaaW.PrintMore Go.Proofs.Ytoondlhlcmjniaa.P Go.Proofs.Ytoondlhlcmjniaa.Com Go.Proofs.Ytoondlhlcmjniaa.Hd
theorem ints_l0 (l : List Int) (hl : l.length ≤ 17592186044416) (d : Nat) : ∀ i : Nat, i + d = l.length → Ev (fun k => gladstoneref08_Ints.l0 k l l (i : Int)) true := by
  induction d with
  | zero =>
    intro i hi
    exact Ev.step (f := fun _ => some true) (fun k => by simp only [gladstoneref08_Ints.l0]; rw [if_neg (by omega)]) (Ev.now _)
  | succ d ih =>
    intro i hi
    refine Ev.step (f := fun k => gladstoneref08_Ints.l0 k l l ((i + 1 : Nat) : Int)) (fun k => ?_) (ih (i + 1) (by omega))
    simp only [gladstoneref08_Ints.l0]
    rw [if_pos (by omega), if_pos (by omega), if_pos (by omega), if_pos trivial, w64 (by omega) (by omega)]
    rfl
theorem ints_ev (l : List Int) (hl : l.length ≤ 17592186044416) : Ev (fun k => gladstoneref08_Ints.f k l l) true := by
  unfold gladstoneref08_Ints.f
  exact Ev.ifp rfl (ints_l0 l hl l.length 0 (by omega))
theorem awake_f' : ((gladstonelaw59_awake.f).bind fun t => some t) = some true := rfl
theorem refN_len (l : List Int) (n : Int) : (refN l n).1.length ≤ 1000 := by
  unfold refN
  by_cases h : chkN l n = 0
  · rw [if_pos h]
    obtain ⟨h1, h2, h3, h4, h5, h6⟩ := chkN_ok h
    have hN : 0 < 2 ^ n.toNat ∧ 2 ^ n.toNat ≤ 4096 := ⟨Nat.two_pow_pos _, Nat.pow_le_pow_right (n := 2) (by decide) (show n.toNat ≤ 12 by omega)⟩
    have := (normT_ok (N := 2 ^ n.toNat) hN.1 hN.2 h3 h4 h2 h6).1
    show (normT l (2 ^ n.toNat)).length ≤ 1000
    omega
  · rw [if_neg h]; exact Nat.zero_le _
theorem refS_len (l : List Int) (n : Int) : (refS l n).1.length ≤ 5000 := by
  unfold refS
  by_cases h : chkT l n = 0
  · rw [if_pos h]
    have h5 : ¬ (n < 5 ∨ 12 < n) := fun hn => by unfold chkT at h; rw [if_pos hn] at h; cases h
    have hn : 2 ^ n.toNat ≤ 4096 := Nat.pow_le_pow_right (n := 2) (by decide) (show n.toNat ≤ 12 by omega)
    have e : (Cn.tabn (2 ^ n.toNat) (fun x => (Tn.syF n.toNat (nl l) x : Int))).length ≤ 5000 := by rw [Cn.tabn_length]; omega
    exact e
  · rw [if_neg h]; exact Nat.zero_le _
theorem TansNorms : gladstonelaw59_TansNorms.Pure := by
  intro a b n _ _ ha _ _ hb hn
  apply Ev.rounds
  unfold gladstonelaw59_TansNorms.f
  have hj : Ev (fun k => gladstonelaw59_TansNorms.j0 k a b n true) true := by
    refine Ev.step (f := fun _ => some true) (fun k => ?_) (Ev.now _)
    simp only [gladstonelaw59_TansNorms.j0]
    rw [if_pos (by simp), awake_f']
  by_cases h1 : (a.length : Int) > 300
  · exact Ev.ifp h1 hj
  refine Ev.ifn h1 ?_
  by_cases h2 : (b.length : Int) > 300
  · rw [decide_eq_true h2]; exact hj
  rw [decide_eq_false h2]
  refine Ev.step (fun k => by simp only [gladstonelaw59_TansNorms.j0]; rfl) ?_
  refine Ev.ifn (by simp) ?_
  refine Ev.bind (f := fun k t => _) (norm_ev a (by omega) n) ?_
  refine Ev.bind (f := fun k t => _) (rnorm_ev a (by omega) n) ?_
  refine Ev.bind (f := fun k t => _) (tspread_ev b (by omega) n) ?_
  refine Ev.bind (f := fun k t => _) (rspread_ev b (by omega) n) ?_
  refine Ev.bind (f := fun k t => _) (ints_ev _ (by have := refN_len a n; omega)) ?_
  refine Ev.ifp rfl (Ev.ifp rfl ?_)
  refine Ev.bind (f := fun k t => _) (ints_ev _ (by have := refS_len b n; omega)) ?_
  refine Ev.ifp rfl (Ev.ifp rfl ?_)
  exact Ev.fixed awake_f'
end Go.Proofs.Ytoondlhlcmjniaa.Pure
