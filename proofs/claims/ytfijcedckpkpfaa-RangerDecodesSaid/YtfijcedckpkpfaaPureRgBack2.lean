/- The law RangerBack. -/
import Derived.Test.YtfijcedckpkpfaaPureRgBack
import Derived.Test.YtfijcedckpkpfaaPx6
set_option linter.unusedVariables false
set_option linter.unusedSimpArgs false
set_option linter.unusedSectionVars false
namespace Go.Proofs.Ytfijcedckpkpfaa.Pure
open Go Go.RowKit Go.Proofs.YtfijcedckpkpfaaW.PrintWords Go.Proofs.YtfijcedckpkpfaaW.PrintMore Go.Proofs.Ytfijcedckpkpfaa.P Go.Proofs.Ytfijcedckpkpfaa.Com Go.Proofs.Ytfijcedckpkpfaa.Rn Go.Proofs.Ytfijcedckpkpfaa.Hd
theorem ev_get {α : Type} {f : Nat → Option α} {r : α} (h : Ev f r) : ∃ k, f k = some r := by
  obtain ⟨k, hk⟩ := h
  exact ⟨k, hk k (Nat.le_refl _)⟩
theorem awake_ev' : Ev (fun _ => (gladstonelaw45_awake.f).bind fun t => some t) true := Ev.fixed rfl
theorem begins_ev (l : List Bool) (hl : l.length ≤ 17592186044416) : Ev (fun k => gladstoneref09_begins.f k l l) true := by
  have h := Ev.along l (fun k (_ : Unit) i => gladstoneref09_begins.l0 k l l i) (fun _ _ => true) (fun _ _ => True) ?_ ?_ 0 () (Nat.zero_le _) trivial
  · refine Ev.congr (fun k => ?_) h
    unfold gladstoneref09_begins.f
    rw [if_neg (by omega)]; rfl
  · intro s _
    refine Ev.step (f := fun _ => some true) (fun k => ?_) (Ev.now _)
    simp only [gladstoneref09_begins.l0]
    rw [if_neg (by omega)]
  · intro i s a t hs hd ha hlt ih
    refine Ev.step (fun k => ?_) (ih () trivial)
    simp only [gladstoneref09_begins.l0]
    rw [if_pos (by omega), if_pos (by omega), if_pos (by omega), if_neg (by simp), w64 (x := (i : Int) + 1) (by omega) (by omega)]
    rfl
theorem bools_ev (l : List Bool) (hl : l.length ≤ 17592186044416) : Ev (fun k => gladstoneref09_Bools.f k l l) true := by
  unfold gladstoneref09_Bools.f
  refine Ev.ifp rfl ?_
  exact Ev.bind (f := fun _ t => some t) (begins_ev l hl) (Ev.now _)
def pf (x : Int) : Int := Int.tmod x 2047 + 1
theorem RangerBack (l0 : List Bool) (y0 : l0.length ≤ 140737488351232) (l1 : List Int) (y1 : l1.length * 2 ≤ 140737488351232) (hw : ∀ x ∈ l1, (Lit.int .u16 x).wf = true) (a2 : ByteArray) (w2 : a2.size ≤ 140737488351232) : ∃ k, gladstonelaw45_RangerBack.f k l0 l1 a2 = some true := by
  have hj : Ev (fun k => gladstonelaw45_RangerBack.j0 k l0 l1 a2 true) true := by
    refine Ev.step (fun k => ?_) awake_ev'
    simp only [gladstonelaw45_RangerBack.j0]
    rw [if_pos trivial]
  refine ev_get ?_
  unfold gladstonelaw45_RangerBack.f
  by_cases h1 : (l0.length : Int) > 500
  · exact Ev.ifp h1 hj
  · refine Ev.ifn h1 ?_
    by_cases h2 : (l1.length : Int) = (l0.length : Int)
    · refine Ev.ifp h2 ?_
      by_cases h3 : (a2.size : Int) > 100
      · rw [decide_eq_true h3]; exact hj
      · rw [decide_eq_false h3]
        have hx : ∀ x ∈ l1, 0 ≤ x ∧ x ≤ 65535 := fun x hx => by
          have := hw x hx
          simp [Lit.wf, IntKind.min, IntKind.max, IntKind.bits, IntKind.signed] at this
          omega
        have hp : ∀ p ∈ l1.map pf, 1 ≤ p ∧ p ≤ 2047 := fun p hp => by
          obtain ⟨x, hxm, rfl⟩ := List.mem_map.1 hp
          have := hx x hxm
          unfold pf
          rw [Int.tmod_eq_emod_of_nonneg this.1]
          omega
        have hb := back l0 (l1.map pf) a2 (by rw [List.length_map]; omega) hp
        have hne : (l1.map pf).any badP = false := by
          rw [List.any_eq_false]
          intro x hxm
          have := hp x hxm
          unfold badP
          rw [decide_eq_true_eq]
          omega
        have hlen : (encP l0 (l1.map pf)).1.size ≤ 4 * 500 + 4 := by
          unfold encP
          split
          · exact Nat.zero_le _
          · split
            · exact Nat.zero_le _
            · split
              · exact Nat.zero_le _
              · have h1 := enc_len l0 (l1.map pf) 0 4294967295
                have h2 : (strOfNums (enc l0 (l1.map pf) 0 4294967295)).size = (enc l0 (l1.map pf) 0 4294967295).length := by
                  rw [← nb_length]; simp [nb, strOfNums]
                rw [h2]
                omega
        have key := Ev.along l1 (fun k s i => gladstonelaw45_RangerBack.l0 k l0 l1 a2 s i) (fun _ _ => true) (fun i s => s = (l1.take i).map pf) ?_ ?_ 0 [] (Nat.zero_le _) rfl
        · refine Ev.step (fun k => ?_) key
          simp only [gladstonelaw45_RangerBack.j0]
          rw [if_neg (by decide)]
          rfl
        · intro s hs
          rw [List.take_length] at hs
          subst hs
          refine Ev.step (f := fun k => (gladstoneref09_Bools.f k l0 l0).bind fun t => if t = true then ((gladstonelaw45_awake.f).bind fun t => some t) else some false) (fun k => ?_) ?_
          · have e1 : ranger_Encode.f l0 (l1.map pf) = some (encP l0 (l1.map pf)) := if_pos (by rw [List.length_map]; omega)
            have e2 : ranger_Decode.f ((encP l0 (l1.map pf)).1 ++ a2) (l1.map pf) = some (l0, 0) := by
              unfold ranger_Decode.f
              rw [if_pos (by rw [List.length_map]; omega)]
              unfold decP
              rw [hne, if_neg (by decide), hb.1]
            simp only [gladstonelaw45_RangerBack.l0]
            rw [if_neg (by omega), e1]
            simp only [Option.bind_some]
            rw [if_pos (by omega), e2]
            simp only [Option.bind_some]
            rw [if_pos hb.2, if_pos trivial]
          · exact Ev.bind (bools_ev l0 (by omega)) (Ev.ifp rfl awake_ev')
        · intro i s a t hs hd ha hlt ih
          have hxa := hx a (List.mem_of_getElem? ha)
          have e : Int.tmod a 2047 = a % 2047 := Int.tmod_eq_emod_of_nonneg hxa.1
          refine Ev.step (fun k => ?_) (ih (s ++ [pf a]) (by rw [hs, List.take_add_one, ha]; simp))
          simp only [gladstonelaw45_RangerBack.l0]
          have hsl : s.length ≤ 500 := by rw [hs, List.length_map, List.length_take]; omega
          rw [if_pos (by omega), if_pos (by omega), if_pos (by omega), rd_some ha, w64 (x := Int.tmod a 2047) (by omega) (by omega), w64 (x := Int.tmod a 2047 + 1) (by omega) (by omega), w64 (x := (i : Int) + 1) (by omega) (by omega)]
          rfl
    · exact Ev.ifn h2 hj
end Go.Proofs.Ytfijcedckpkpfaa.Pure
