/- Plain lemmas of this session's own: wrap-round, elements of lists, rounds. -/
import Derived.Test.YtmjhcklenleliaaWWords
import Derived.Test.YtmjhcklenleliaaWMore
namespace Go.Proofs.Ytmjhcklenleliaa.Com
open Go.RowKit Go.Proofs.YtmjhcklenleliaaW.PrintWords Go.Proofs.YtmjhcklenleliaaW.PrintLast Go.Proofs.YtmjhcklenleliaaW.PrintMore

theorem w64 {x : Int} (h1 : -9223372036854775808 ≤ x) (h2 : x ≤ 9223372036854775807) : wrap64 x = x := by
  unfold wrap64; omega

theorem rd_nat (l : List Int) (i : Nat) : rd l (i : Int) = l.getD i 0 := by simp [rd]
theorem rdOf_nat {α : Type} (d : α) (l : List α) (i : Nat) : rdOf d l (i : Int) = l.getD i d := by simp [rdOf]

/-- One round more, told by an equation at each number of rounds. -/
theorem _root_.Go.Proofs.YtmjhcklenleliaaW.PrintWords.Ev.pre {α : Type} {g f : Nat → Option α} {r : α} (h : ∀ k, g (k + 1) = f k) (k : Ev f r) : Ev g r := Ev.step h k
theorem _root_.Go.Proofs.YtmjhcklenleliaaW.PrintWords.Ev.eq {α : Type} {g f : Nat → Option α} {r : α} (h : ∀ k, g k = f k) (k : Ev f r) : Ev g r := Ev.congr h k
theorem _root_.Go.Proofs.YtmjhcklenleliaaW.PrintWords.Ev.some {α : Type} {r r' : α} (h : r' = r) : Ev (fun _ => Option.some r') r := h ▸ Ev.now r'
theorem _root_.Go.Proofs.YtmjhcklenleliaaW.PrintWords.Ev.ifp {α : Type} {c : Prop} [Decidable c] {f g : Nat → Option α} {r : α} (h : c) (k : Ev f r) : Ev (fun n => if c then f n else g n) r := by simpa [h] using k
theorem _root_.Go.Proofs.YtmjhcklenleliaaW.PrintWords.Ev.ifn {α : Type} {c : Prop} [Decidable c] {f g : Nat → Option α} {r : α} (h : ¬ c) (k : Ev g r) : Ev (fun n => if c then f n else g n) r := by simpa [h] using k
theorem _root_.Go.Proofs.YtmjhcklenleliaaW.PrintWords.Ev.fixed {α : Type} {g : Option α} {r : α} (h : g = Option.some r) : Ev (fun _ => g) r := ⟨0, fun _ _ => h⟩

end Go.Proofs.Ytmjhcklenleliaa.Com
