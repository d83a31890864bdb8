/- The plain law of chapter 45's decoder, one bit at a time. -/
import Derived.Test.YtfijcedckpkpfaaPureRgDec
import Derived.Test.YtfijcedckpkpfaaPureRgBack2
import Derived.Test.YtfijcedckpkpfaaPx5
set_option linter.unusedVariables false
set_option linter.unusedSimpArgs false
set_option linter.unusedSectionVars false
namespace Go.Proofs.Ytfijcedckpkpfaa.Pure
open Go Go.RowKit Go.Proofs.YtfijcedckpkpfaaW.PrintWords Go.Proofs.YtfijcedckpkpfaaW.PrintMore Go.Proofs.Ytfijcedckpkpfaa.P Go.Proofs.Ytfijcedckpkpfaa.Com Go.Proofs.Ytfijcedckpkpfaa.Rn Go.Proofs.Ytfijcedckpkpfaa.Hd
theorem dbit_ok (e : Ds) (ho : OkD e) (p : Nat) (hp1 : 1 ≤ p) (hp : p ≤ 2047) :
    ranger_Decoder_Bit.f (e.1 : Int) (e.2.1 : Int) (e.2.2.1 : Int) e.2.2.2 (p : Int) = some (dB e p, 0, ((dN e p).1 : Int), ((dN e p).2.1 : Int), ((dN e p).2.2.1 : Int), (dN e p).2.2.2) := by
  obtain ⟨h1, h2, h3⟩ := ho
  unfold ranger_Decoder_Bit.f
  have hb : badP (p : Int) = false := by unfold badP; rw [decide_eq_false (by omega)]
  have ed : dOf (e.1 : Int) (e.2.1 : Int) (e.2.2.1 : Int) e.2.2.2 = e := by simp [dOf]
  rw [if_pos (by omega), hb, if_neg (by decide), ed, Int.toNat_natCast]
theorem dbit_bad (e : Ds) (ho : OkD e) (p : Int) (hp : badP p = true) :
    ranger_Decoder_Bit.f (e.1 : Int) (e.2.1 : Int) (e.2.2.1 : Int) e.2.2.2 p = some (false, 2, (e.1 : Int), (e.2.1 : Int), (e.2.2.1 : Int), e.2.2.2) := by
  obtain ⟨h1, h2, h3⟩ := ho
  unfold ranger_Decoder_Bit.f
  rw [if_pos (by omega), hp, if_pos rfl]
theorem law_l0 (l : List Int) (hn : l.length ≤ 500) (d : Nat) : ∀ (i : Nat) (e : Ds), i + d = l.length → OkD e →
    Ev (fun k => gladstonelaw45_RangerDecodes.l0 k l (i : Int) (e.1 : Int) (e.2.1 : Int) (e.2.2.1 : Int) e.2.2.2 (e.1 : Int) (e.2.1 : Int) (e.2.2.1 : Int) e.2.2.2) true := by
  induction d with
  | zero =>
    intro i e hi ho
    refine Ev.step (f := fun _ => some true) (fun k => ?_) (Ev.now _)
    simp only [gladstonelaw45_RangerDecodes.l0]
    rw [if_neg (by omega)]
    rfl
  | succ d ih =>
    intro i e hi ho
    have hi1 : l[i]? = some (l[i]'(by omega)) := List.getElem?_eq_getElem (by omega)
    generalize l[i]'(by omega) = p at *
    cases hb : badP p with
    | true =>
      refine Ev.step (f := fun k => (gladstoneref45_Bit.f k (e.1 : Int) (e.2.1 : Int) (e.2.2.1 : Int) e.2.2.2 p).bind fun bt => if (false != bt.2.2.2.2.1) = true then some false else if (2 : Int) = bt.2.2.2.2.2 then gladstonelaw45_RangerDecodes.l0 k l ((i + 1 : Nat) : Int) (e.1 : Int) (e.2.1 : Int) (e.2.2.1 : Int) e.2.2.2 bt.1 bt.2.1 bt.2.2.1 bt.2.2.2.1 else some false) (fun k => ?_) ?_
      · simp only [gladstonelaw45_RangerDecodes.l0]
        rw [if_pos (by omega), if_pos (by omega), rd_some hi1, w64 (x := (i : Int) + 1) (by omega) (by omega), dbit_bad e ho p hb]
        rfl
      · refine Ev.bind (bit_bad _ _ _ _ p hb) ?_
        exact Ev.ifn (by simp) (Ev.ifp rfl (ih (i + 1) e (by omega) ho))
    | false =>
      have hpr : 1 ≤ p ∧ p ≤ 2047 := by
        unfold badP at hb
        rw [decide_eq_false_iff_not] at hb
        omega
      obtain ⟨q, rfl⟩ : ∃ q : Nat, p = q := ⟨p.toNat, by omega⟩
      refine Ev.step (f := fun k => (gladstoneref45_Bit.f k (e.1 : Int) (e.2.1 : Int) (e.2.2.1 : Int) e.2.2.2 (q : Int)).bind fun bt => if (dB e q != bt.2.2.2.2.1) = true then some false else if (0 : Int) = bt.2.2.2.2.2 then gladstonelaw45_RangerDecodes.l0 k l ((i + 1 : Nat) : Int) ((dN e q).1 : Int) ((dN e q).2.1 : Int) ((dN e q).2.2.1 : Int) (dN e q).2.2.2 bt.1 bt.2.1 bt.2.2.1 bt.2.2.2.1 else some false) (fun k => ?_) ?_
      · simp only [gladstonelaw45_RangerDecodes.l0]
        rw [if_pos (by omega), if_pos (by omega), rd_some hi1, w64 (x := (i : Int) + 1) (by omega) (by omega), dbit_ok e ho q (by omega) (by omega)]
        rfl
      · refine Ev.bind (bit_ev e q ho (by omega) (by omega)) ?_
        exact Ev.ifn (by simp) (Ev.ifp rfl (ih (i + 1) (dN e q) (by omega) (dN_ok ho (by omega))))
theorem RangerDecodes : gladstonelaw45_RangerDecodes.Pure := by
  intro s l _ _ _ _
  apply Ev.rounds
  have ha : Ev (fun _ : Nat => (gladstonelaw45_awake.f).bind fun t => some t) true := Ev.fixed rfl
  have hj : Ev (fun k => gladstonelaw45_RangerDecodes.j0 k s l true) true := by
    refine Ev.step (fun k => ?_) ha
    simp only [gladstonelaw45_RangerDecodes.j0]
    rw [if_pos trivial]
  unfold gladstonelaw45_RangerDecodes.f
  by_cases h1 : (s.size : Int) > 500
  · exact Ev.ifp h1 hj
  · refine Ev.ifn h1 ?_
    by_cases h2 : (l.length : Int) > 500
    · rw [decide_eq_true h2]; exact hj
    · rw [decide_eq_false h2]
      have e1 : ranger_Decode.f s l = some (decP s l) := if_pos (by omega)
      have hlen : (decP s l).1.length ≤ l.length := by
        unfold decP
        split
        · exact Nat.zero_le _
        · exact Nat.le_of_eq (dec_len l _)
      have hl0 := law_l0 l (by omega) l.length 0 (dStart s) (by omega) (dStart_ok s)
      have hj1 : Ev (fun k => gladstonelaw45_RangerDecodes.j1 k s l ((decP s l).2 != (decP s l).2)) true := by
        have en : ((decP s l).2 != (decP s l).2) = false := by simp
        rw [en]
        refine Ev.step (f := fun k => (gladstoneref45_New.f k s).bind fun bt => gladstonelaw45_RangerDecodes.l0 k l 0 0 4294967295 ((nit 4 0 s).1 : Int) (nit 4 0 s).2 bt.1 bt.2.1 bt.2.2.1 bt.2.2.2) (fun k => ?_) ?_
        · simp only [gladstonelaw45_RangerDecodes.j1]
          rw [if_neg (by decide)]
          rfl
        · exact Ev.bind (new_ev s) hl0
      refine Ev.step (f := fun k => (gladstoneref45_Decode.f k s l).bind fun bt => (gladstoneref09_Bools.f k (decP s l).1 bt.1).bind fun t => if t = true then gladstonelaw45_RangerDecodes.j1 k s l ((decP s l).2 != bt.2) else gladstonelaw45_RangerDecodes.j1 k s l true) (fun k => ?_) ?_
      · simp only [gladstonelaw45_RangerDecodes.j0]
        rw [if_neg (by decide), e1]
        rfl
      · refine Ev.bind (rdecode_ev s l (by omega)) ?_
        refine Ev.bind (bools_ev _ (by omega)) ?_
        exact Ev.ifp rfl hj1
end Go.Proofs.Ytfijcedckpkpfaa.Pure
