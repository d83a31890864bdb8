/- The plain laws of chapter 9 (slow): SlowDecodes, SlowBack. -/
import Derived.Test.YtlegmefnaghloaaPureSlow2
import Derived.Test.YtlegmefnaghloaaPx4
import Derived.Test.YtlegmefnaghloaaPx8
import Derived.Test.YtlegmefnaghloaaPx9
set_option linter.unusedVariables false
set_option linter.unusedSimpArgs false
set_option linter.unusedSectionVars false
namespace Go.Proofs.Ytlegmefnaghloaa.Pure
open Go.RowKit Go.Proofs.YtlegmefnaghloaaW.PrintWords Go.Proofs.YtlegmefnaghloaaW.PrintMore Go.Proofs.Ytlegmefnaghloaa.P Go.Proofs.Ytlegmefnaghloaa.Com Go.Proofs.Ytlegmefnaghloaa.Cn Go.Proofs.Ytlegmefnaghloaa.Hd
theorem awake_ev : Ev (fun k => gladstonelaw09_awake.f k) true := Ev.of (fun k => gladstonelaw09_awake.mono k) (k := 40) (by decide +kernel)
attribute [local irreducible] ord pos code
theorem awake_ev' : Ev (fun k => (gladstonelaw09_awake.f k).bind fun t => some t) true := Ev.bind (f := fun _ t => some t) awake_ev (Ev.now _)
theorem bools_ev (a : List Bool) (h : a.length ≤ 1000000) : Ev (fun k => gladstoneref09_Bools.f k a a) true := by
  have h1 := begins_ev a a h
  rw [decide_eq_true (List.prefix_refl a)] at h1
  exact Ev.ifp rfl (Ev.bind (f := fun _ t => some t) h1 (Ev.now _))
theorem encR_len (l : List Int) (hl : ∀ x ∈ l, 0 ≤ x ∧ x ≤ 16) (syms : List Int) : ∀ acc : List Bool, (encR l acc syms).1.length ≤ acc.length + 16 * syms.length := by
  induction syms with
  | nil => intro acc; rw [encR]; exact Nat.le_add_right _ _
  | cons x t ih =>
    intro acc
    rw [encR]
    split
    · exact Nat.zero_le _
    · rename_i h
      have h1 := ih (acc ++ mb (code l x.toNat) (ln l x.toNat))
      have h2 := (ln16 hl (show x.toNat < l.length by omega)).1
      rw [List.length_append, mb_length] at h1
      rw [List.length_cons]
      omega
theorem encP_len (l syms : List Int) (hs : syms.length ≤ 1000) : (encP l syms).1.length ≤ 16000 := by
  unfold encP
  split
  · rename_i h
    have := encR_len l (chk_len h).2 syms []
    rw [List.length_nil] at this
    omega
  · exact Nat.zero_le _
theorem SlowDecodes (l0 : List Int) {p0 q0 : Prop} (_ : p0) (_ : q0) (l1 : List Bool) {p1 : Prop} (_ : p1) (l2 : List Int) {p2 q2 : Prop} (_ : p2) (_ : q2) : ∃ k, gladstonelaw09_SlowDecodes.f k l0 l1 l2 = some true := by
  have ht : Ev (fun k => gladstonelaw09_SlowDecodes.j0 k l0 l1 l2 true) true := by
    refine Ev.step (fun k => ?_) awake_ev'
    simp only [gladstonelaw09_SlowDecodes.j0]
    rw [if_pos trivial]
  have h : Ev (fun k => gladstonelaw09_SlowDecodes.f k l0 l1 l2) true := by
    unfold gladstonelaw09_SlowDecodes.f
    by_cases h1 : (l0.length : Int) > 200
    · exact Ev.ifp h1 ht
    · refine Ev.ifn h1 ?_
      by_cases h2 : (l1.length : Int) > 200
      · exact Ev.ifp h2 ht
      · refine Ev.ifn h2 ?_
        by_cases h3 : (l2.length : Int) > 100
        · rw [decide_eq_true h3]; exact ht
        · rw [decide_eq_false h3]
          refine Ev.step (f := fun k => (slow_Decode.f k l0 l1).bind fun bt212 => ((gladstoneref09_Decode.f k l0 l1).bind fun bt215 => ((slow_Encode.f k l0 l2).bind fun bt218 => ((gladstoneref09_Encode.f k l0 l2).bind fun bt222 => (if bt212.1 = bt215.1 then (if bt212.2.1 = bt215.2.1 then (if bt212.2.2 = bt215.2.2 then ((gladstoneref09_Bools.f k bt218.1 bt222.1).bind fun t226 => (if t226 = true then (if bt218.2 = bt222.2 then ((gladstonelaw09_awake.f k).bind fun t227 => (some t227)) else (some false)) else (some false))) else (some false)) else (some false)) else (some false)))))) (fun k => ?_) ?_
          · simp only [gladstonelaw09_SlowDecodes.j0]
            rw [if_neg (by decide)]
          · refine Ev.bind (decode_ev l0 (by omega) l1 (by omega)) (Ev.bind (rdecode_ev l0 (by omega) l1 (by omega)) (Ev.bind (encode_ev l0 (by omega) l2 (by omega)) (Ev.bind (rencode_ev l0 (by omega) l2 (by omega)) ?_)))
            refine Ev.ifp rfl (Ev.ifp rfl (Ev.ifp rfl ?_))
            exact Ev.bind (bools_ev _ (Nat.le_trans (encP_len l0 l2 (by omega)) (by decide))) (Ev.ifp rfl (Ev.ifp rfl awake_ev'))
  exact ev_get h
end Go.Proofs.Ytlegmefnaghloaa.Pure
