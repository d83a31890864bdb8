/- lzw: what the laws share, plainly. -/
import Derived.Test.YtnmggblhbodfgaaPureLz
import Derived.Test.YtnmggblhbodfgaaPx3
import Derived.Test.YtnmggblhbodfgaaPx4
set_option linter.unusedVariables false
set_option linter.unusedSimpArgs false
set_option linter.unusedSectionVars false
namespace Go.Proofs.Ytnmggblhbodfgaa.Pure
open Go.RowKit Go.Proofs.YtnmggblhbodfgaaW.PrintWords Go.Proofs.YtnmggblhbodfgaaW.PrintMore Go.Proofs.Ytnmggblhbodfgaa.P Go.Proofs.Ytnmggblhbodfgaa.Com Go.Proofs.Ytnmggblhbodfgaa.Hd
theorem awake_true : gladstonelaw60_awake.f = some true := by decide +kernel
theorem awake_ev : Ev (fun _ => (gladstonelaw60_awake.f).bind fun t => some t) true := Ev.fixed (by rw [awake_true]; rfl)
theorem nb_one (c : Nat) (h : c < 256) : nb (strOfNums [((c : Nat) : Int)]) = [c] := nb_str [c] (by intro x hx; rw [List.mem_singleton.1 hx]; exact h)
theorem fresh0_l0 (d : Nat) : ∀ i : Nat, i + d = 256 → Ev (fun k => gladstoneref60_fresh.l0 k ((List.range i).map (fun c : Nat => strOfNums [((c : Nat) : Int)])) (i : Int)) rows0 := by
  induction d with
  | zero =>
    intro i hi
    obtain rfl : i = 256 := hi
    refine Ev.step (f := fun _ => some rows0) (fun k => ?_) (Ev.now _)
    rw [gladstoneref60_fresh.l0, if_neg (by decide)]
    rfl
  | succ d ih =>
    intro i hi
    refine Ev.step (f := fun k => gladstoneref60_fresh.l0 k ((List.range (i + 1)).map (fun c : Nat => strOfNums [((c : Nat) : Int)])) ((i + 1 : Nat) : Int)) (fun k => ?_) (ih (i + 1) (by omega))
    rw [gladstoneref60_fresh.l0, if_pos (by omega), if_pos (by rw [List.length_map, List.length_range]; omega), w64 (by omega) (by omega), List.range_succ, List.map_append, List.map_singleton]
    have e : ((i : Int) % 256) = (i : Int) := by omega
    rw [e]
    rfl
theorem fresh0_ev : Ev (fun k => gladstoneref60_fresh.f k) rows0 := fresh0_l0 256 0 (by omega)
theorem rows0_nb : rows0.map nb = R [] := by
  unfold rows0
  rw [R_nil, rw0, List.map_map]
  refine List.map_congr_left (fun c hc => ?_)
  exact nb_one c (List.mem_range.1 hc)
theorem rdOf_emp (l : List ByteArray) (i : Nat) : rdOf ByteArray.empty l (i : Int) = l.getD i ⟨#[]⟩ := rdOf_nat _ l i
theorem getD_lt {α : Type} {l : List α} {i : Nat} (d : α) (h : i < l.length) : l.getD i d = l[i] := by rw [List.getD_eq_getElem?_getD, List.getElem?_eq_getElem h]; rfl
theorem nb_getD {l : List ByteArray} {D : List (Nat × Nat)} (h : l.map nb = R D) (k : Nat) : nb (l.getD k ⟨#[]⟩) = row D k := by
  unfold row
  rw [← h, List.getD_eq_getElem?_getD, List.getD_eq_getElem?_getD, List.getElem?_map]
  cases l[k]? with
  | none => rfl
  | some x => rfl
theorem l_len {l : List ByteArray} {D : List (Nat × Nat)} (h : l.map nb = R D) : l.length = 256 + D.length := by rw [← R_len, ← h, List.length_map]
theorem toList_nil (s : ByteArray) : s.toList = ([] : List UInt8) ↔ s.size = 0 := by
  have h : s.toList.length = s.size := by rw [ByteArray.toList_eq]; simp
  constructor
  · intro e; rw [e] at h; exact h.symm
  · intro e; exact List.eq_nil_of_length_eq_zero (by omega)
theorem grD_ok {room : Nat} {D : List (Nat × Nat)} {a c : Nat} (h : DOk D) (hx : (a, c) ∉ D) (ha : a < 256 + D.length) (hc : c < 256) : DOk (grD room D (a, c)) := by
  unfold grD
  split
  · exact h.snoc hx ha hc
  · exact h
end Go.Proofs.Ytnmggblhbodfgaa.Pure
