/- Words for walks in a round of a range over a function: a plain walk of a region is one inside the round, too. -/
import Derived.Test.YtoondlhlcmjniaaZHBkG
set_option linter.unusedVariables false
set_option linter.unusedSimpArgs false
set_option linter.unusedSectionVars false
namespace Go.Proofs.Ytoondlhlcmjniaa.Hd
open Go Go.RowKit Go.Proofs.YtoondlhlcmjniaaW.PrintWords Go.Proofs.YtoondlhlcmjniaaW.PrintLast Go.Proofs.YtoondlhlcmjniaaW.PrintMore
section
variable {P : Program} {Q : Exit → Act → World → Prop} {l n : Nat}
theorem rows_in {row : String} {args : Array Value} {w : World} {R : Value → World → Prop} (h : Rows P row args w R) : RowsIn (Fence.wide.inRound l) n P row args w R := by
  intro c cs _
  obtain ⟨v, w', r, s⟩ := h c cs
  exact ⟨v, w', r, stepsIn_wide.2 s⟩
theorem op_in {o : Oper} {a : Act} {w : World} {K : Act → World → Prop} (hd : ∀ c, o.op ≠ .defer c) (h : o.wp P a w K Q) : o.wpIn (Fence.wide.inRound l) n P a w K Q := by
  refine ⟨fun _ _ => trivial, ?_⟩
  rw [show (Fence.wide.inRound l).round = some l from rfl, Oper.semAt_some l _ _ hd]
  unfold Oper.wp at h
  generalize (execOp a.eval o).run P w = r at h
  cases r with
  | halt e w' => cases e <;> first | exact h | exact h.elim
  | ok x w' =>
    cases x with
    | enter f args => exact ⟨(fun hh => by cases hh), CallsIn.inRound l (callsIn_wide.2 h)⟩
    | row row args => exact ⟨(fun hh => by cases hh), rows_in h⟩
    | _ => first | exact h | exact h.elim
theorem list_in {ops : Array Oper} (hQ : ¬ LetsOut Q) : ∀ (L : List Oper) (a : Act) (w : World), (∀ o ∈ L, ∀ c, o.op ≠ .defer c) → wpList P ops Q L a w → wpListIn (Fence.wide.inRound l) n P ops Q L a w
  | [], _, _, _, h => h
  | o :: rest, a, w, hd, h => by
    unfold wpList at h
    unfold wpListIn
    have hr : ∀ a w, wpList P ops Q rest a w → wpListIn (Fence.wide.inRound l) n P ops Q rest a w := fun a w => list_in hQ rest a w (fun o ho => hd o (List.mem_cons_of_mem _ ho))
    split
    · rename_i hw
      rw [if_pos hw] at h
      rcases h with h | h
      · exact op_in (hd o List.mem_cons_self) (Oper.wp_mono hr h)
      · exact absurd h.2 hQ
    · rename_i hw
      rw [if_neg hw] at h
      exact ⟨fun _ _ => trivial, hr _ _ h⟩
/-- A region of a round's body. -/
theorem reg_in {id : Nat} {L : List Oper} {a : Act} {w : World} (hQ : ¬ LetsOut Q) (hd : L.all (fun o => match o.op with | .defer _ => false | _ => true) = true) (h : wpList P L.toArray Q L a w) : (Code.region id L.toArray false).wpIn (Fence.wide.inRound l) n P Q a w := by
  refine wpIn_region_lit (list_in hQ L a w (fun o ho c e => ?_) h)
  have := List.all_eq_true.1 hd o ho
  rw [e] at this
  cases this
theorem seq_in {id : Nat} {L : List Oper} {rest : Code} {a : Act} {w : World} (hQ : ¬ LetsOut Q) (hd : L.all (fun o => match o.op with | .defer _ => false | _ => true) = true) (h : wpList P L.toArray (Exit.then (rest.wpIn (Fence.wide.inRound l) n P Q) Q) L a w) : (Code.seq (Code.region id L.toArray false) rest).wpIn (Fence.wide.inRound l) n P Q a w :=
  wpIn_seq (reg_in (fun ⟨a', w', h'⟩ => hQ ⟨a', w', h'⟩) hd h)
end
end Go.Proofs.Ytoondlhlcmjniaa.Hd
