/- suffix: rows that are alike, plainly. -/
import Derived.Test.YtfmgoealbaihjaaCn
import Derived.Test.YtfmgoealbaihjaaCom
import Derived.Test.YtfmgoealbaihjaaPx5
import Derived.Test.YtfmgoealbaihjaaPx1
import Derived.Test.YtfmgoealbaihjaaHSfS
import Derived.Test.YtfmgoealbaihjaaPx2
set_option linter.unusedVariables false
set_option linter.unusedSimpArgs false
set_option linter.unusedSectionVars false
namespace Go.Proofs.Ytfmgoealbaihjaa.Pure
open Go Go.RowKit Go.Proofs.YtfmgoealbaihjaaW.PrintWords Go.Proofs.YtfmgoealbaihjaaW.PrintMore Go.Proofs.Ytfmgoealbaihjaa.P Go.Proofs.Ytfmgoealbaihjaa.Com Go.Proofs.Ytfmgoealbaihjaa.Cn
theorem eq_drop {l m : List Int} {i : Nat} (h1 : i < l.length) (h2 : i < m.length) : (l.drop i = m.drop i) ↔ (rd l (i : Int) = rd m (i : Int) ∧ l.drop (i + 1) = m.drop (i + 1)) := by
  rw [List.drop_eq_getElem_cons h1, List.drop_eq_getElem_cons h2, List.cons.injEq, rd_nat, rd_nat, List.getD_eq_getElem?_getD, List.getD_eq_getElem?_getD, List.getElem?_eq_getElem h1, List.getElem?_eq_getElem h2]
  rfl
theorem ints_l0 (l m : List Int) (hm : l.length = m.length) (hl : l.length ≤ 140737488355328) (d : Nat) : ∀ i : Nat, i + d = l.length → Ev (fun k => gladstoneref08_Ints.l0 k l m (i : Int)) (decide (l.drop i = m.drop i)) := by
  induction d with
  | zero =>
    intro i hi
    refine Ev.step (f := fun _ => some _) (fun k => ?_) (Ev.now _)
    simp only [gladstoneref08_Ints.l0]
    rw [if_neg (by omega), List.drop_eq_nil_of_le (by omega), List.drop_eq_nil_of_le (by omega)]
    rfl
  | succ d ih =>
    intro i hi
    by_cases h : rd l (i : Int) = rd m (i : Int)
    · refine Ev.step (f := fun k => gladstoneref08_Ints.l0 k l m ((i + 1 : Nat) : Int)) (fun k => ?_) ?_
      · simp only [gladstoneref08_Ints.l0]
        rw [if_pos (by omega), if_pos (by omega), if_pos (by omega), if_pos h, w64 (by omega) (by omega)]
        rfl
      · have e : decide (l.drop i = m.drop i) = decide (l.drop (i + 1) = m.drop (i + 1)) := decide_eq_decide.2 ((eq_drop (by omega) (by omega)).trans ⟨fun x => x.2, fun x => ⟨h, x⟩⟩)
        rw [e]
        exact ih (i + 1) (by omega)
    · refine Ev.step (f := fun _ => some _) (fun k => ?_) (Ev.now _)
      simp only [gladstoneref08_Ints.l0]
      rw [if_pos (by omega), if_pos (by omega), if_pos (by omega), if_neg h]
      rw [decide_eq_false (fun x => h ((eq_drop (by omega) (by omega)).1 x).1)]
theorem ints_ev (l m : List Int) (hl : l.length ≤ 140737488355328) : Ev (fun k => gladstoneref08_Ints.f k l m) (decide (l = m)) := by
  unfold gladstoneref08_Ints.f
  by_cases h : l.length = m.length
  · refine Ev.ifp (by omega) ?_
    have := ints_l0 l m h hl l.length 0 (by omega)
    rw [List.drop_zero, List.drop_zero] at this
    exact this
  · refine Ev.ifn (by omega) ?_
    rw [decide_eq_false (fun e => h (by rw [e]))]
    exact Ev.now _
end Go.Proofs.Ytfmgoealbaihjaa.Pure
/- suffix: slices.Equal, plainly. -/
namespace Go.Proofs.Ytfmgoealbaihjaa.Pure
open Go Go.RowKit Go.Proofs.YtfmgoealbaihjaaW.PrintWords Go.Proofs.YtfmgoealbaihjaaW.PrintMore Go.Proofs.Ytfmgoealbaihjaa.P Go.Proofs.Ytfmgoealbaihjaa.Com Go.Proofs.Ytfmgoealbaihjaa.Cn
theorem seq_l0 (l m : List Int) (hm : l.length = m.length) (hl : l.length ≤ 140737488355328) (d : Nat) : ∀ i : Nat, i + d = l.length → Ev (fun k => slices_Equal_int_int.l0 k l m (l.length : Int) (i : Int)) (decide (l.drop i = m.drop i)) := by
  induction d with
  | zero =>
    intro i hi
    refine Ev.step (f := fun _ => some _) (fun k => ?_) (Ev.now _)
    simp only [slices_Equal_int_int.l0]
    rw [if_neg (by omega), List.drop_eq_nil_of_le (by omega), List.drop_eq_nil_of_le (by omega)]
    rfl
  | succ d ih =>
    intro i hi
    by_cases h : rd l (i : Int) = rd m (i : Int)
    · refine Ev.step (f := fun k => slices_Equal_int_int.l0 k l m (l.length : Int) ((i + 1 : Nat) : Int)) (fun k => ?_) ?_
      · simp only [slices_Equal_int_int.l0]
        rw [if_pos (by omega), if_pos (by omega), if_pos (by omega), if_pos (by omega), if_pos h, w64 (by omega) (by omega)]
        rfl
      · have e : decide (l.drop i = m.drop i) = decide (l.drop (i + 1) = m.drop (i + 1)) := decide_eq_decide.2 ((eq_drop (by omega) (by omega)).trans ⟨fun x => x.2, fun x => ⟨h, x⟩⟩)
        rw [e]
        exact ih (i + 1) (by omega)
    · refine Ev.step (f := fun _ => some _) (fun k => ?_) (Ev.now _)
      simp only [slices_Equal_int_int.l0]
      rw [if_pos (by omega), if_pos (by omega), if_pos (by omega), if_pos (by omega), if_neg h]
      rw [decide_eq_false (fun x => h ((eq_drop (by omega) (by omega)).1 x).1)]
theorem seq_ev (l m : List Int) (hl : l.length ≤ 140737488355328) : Ev (fun k => slices_Equal_int_int.f k l m) (decide (l = m)) := by
  unfold slices_Equal_int_int.f
  by_cases h : l.length = m.length
  · refine Ev.ifp (by omega) ?_
    have := seq_l0 l m h hl l.length 0 (by omega)
    rw [List.drop_zero, List.drop_zero] at this
    exact this
  · refine Ev.ifn (by omega) ?_
    rw [decide_eq_false (fun e => h (by rw [e]))]
    exact Ev.now _
end Go.Proofs.Ytfmgoealbaihjaa.Pure
/- suffix: whether a row is the order, plainly. -/
namespace Go.Proofs.Ytfmgoealbaihjaa.Pure
open Go Go.RowKit Go.Proofs.Ytfmgoealbaihjaa.P Go.Proofs.YtfmgoealbaihjaaW.PrintWords Go.Proofs.YtfmgoealbaihjaaW.PrintLast Go.Proofs.Ytfmgoealbaihjaa.Com Go.Proofs.Ytfmgoealbaihjaa.Hd Go.Proofs.Ytfmgoealbaihjaa.Hw Go.Proofs.Ytfmgoealbaihjaa.Cn Go.Proofs.Ytfmgoealbaihjaa.Sais
theorem is_ev {s : ByteArray} (hs : s.size ≤ 1073741824) (l : List Int) (hl : l.length ≤ 140737488355328) : Ev (fun k => suffix_Is.f k s l) (decide (l = iN (srtN (nb s)))) := by
  have e : suffix_Sort.f s = some (iN (srtN (nb s))) := by unfold suffix_Sort.f; rw [if_pos hs]
  unfold suffix_Is.f
  rw [e]
  simp only [Option.bind_some]
  exact Ev.bind (f := fun _ t => some t) (seq_ev l _ hl) (Ev.now _)
end Go.Proofs.Ytfmgoealbaihjaa.Pure
