/- A scope that the run jumps back in: the kit's law for it (wp_scope_jumps), with a number that every jump lowers and with what follows behind a name. -/
import Derived.ScopeJumps
import Derived.Deep.LoopGhost
import Derived.WalkMore
set_option linter.unusedVariables false
set_option linter.unusedSimpArgs false
set_option linter.unusedSectionVars false
namespace Go.Proofs.YtdifgiceallpiaaDoor.Lab
open Go

/-- The same, where what is walked to the label ends at what follows it. -/
theorem wp_scope_meet {P : Program} {Q : Exit → Act → World → Prop} {a : Act} {w : World} {c R : Code} (l : Nat) (I : Nat → Act → World → Prop) (hf : findLabel c l = some (.seq .skip R))
    (pass : ∀ (QQ : Exit → Act → World → Prop) (n : Nat), (∀ a w, Q .ret a w → QQ .ret a w) → (∀ n' a w, n' < n → I n' a w → QQ (.goto l) a w) → ∀ a w, I n a w → R.wp P QQ a w)
    (first : ∀ (QQ : Exit → Act → World → Prop), (∀ a w, Q .ret a w → QQ .ret a w) → (∀ n a w, I n a w → R.wp P QQ a w) → c.wp P QQ a w) : (Code.scope c).wp P Q a w := by
  refine wp_scope_jumps l (fun a w => ∃ n, I n a w) (fun a w => leastOf (fun n => I n a w)) hf ?_ ?_
  · refine first (Exit.jump l (fun a w => ∃ n, I n a w) Q) (fun a w h => h) (fun n a w h => ?_)
    exact pass (Exit.jump l (fun a w => ∃ n, I n a w) Q) n (fun a w h => h) (fun n' a w _ h => ⟨rfl, n', h⟩) a w h
  · intro a w hJ
    refine wp_seq (wp_skip ?_)
    refine pass (Exit.jump l (fun a' w' => (∃ n, I n a' w') ∧ leastOf (fun n => I n a' w') < leastOf (fun n => I n a w)) Q) _ (fun a w h => h) (fun n' a' w' hlt h => ?_) a w (leastOf_spec hJ).1
    exact ⟨rfl, ⟨n', h⟩, Nat.lt_of_le_of_lt ((leastOf_spec ⟨n', h⟩).2 n' h) hlt⟩
end Go.Proofs.YtdifgiceallpiaaDoor.Lab
