/- Codes of lengths: what the program computes, plainly. -/
import Derived.Test.YtdifgiceallpiaaDoorXCom
set_option linter.unusedVariables false
set_option linter.unusedSimpArgs false
set_option linter.unusedSectionVars false
namespace Go.Proofs.YtdifgiceallpiaaDoor.Cn
open Go.Proofs.YtdifgiceallpiaaDoor.Com

/-! ### lists by their places -/
def tabn (n : Nat) (f : Nat → Int) : List Int := (List.range n).map f
theorem za2 (n : Nat) (f : Nat → Int) : (tabn n f).length = n := by simp [tabn]
theorem tabn_get {n : Nat} {f : Nat → Int} {j : Nat} (h : j < n) : (tabn n f)[j]? = some (f j) := by simp [tabn, List.getElem?_range h]
theorem zbr {n : Nat} {f : Nat → Int} {j : Nat} (h : j < n) : (tabn n f).getD j 0 = f j := by
  rw [List.getD_eq_getElem?_getD, tabn_get h]; rfl
theorem zbd {n : Nat} {f g : Nat → Int} (h : ∀ j, j < n → f j = g j) : tabn n f = tabn n g := by
  unfold tabn
  exact List.map_congr_left (fun j hj => h j (List.mem_range.1 hj))
theorem tabn_set {n : Nat} {f : Nat → Int} (j : Nat) (v : Int) : (tabn n f).set j v = tabn n (fun i => if i = j then v else f i) := by
  apply List.ext_getElem?
  intro i
  by_cases hi : i < n
  · rw [tabn_get hi, List.getElem?_set]
    by_cases hj : j = i
    · subst hj
      simp [za2, hi]
    · rw [if_neg hj, tabn_get hi, if_neg (fun e => hj e.symm)]
  · rw [List.getElem?_eq_none (by rw [List.length_set, za2]; omega), List.getElem?_eq_none (by rw [za2]; omega)]
theorem tabn_of (l : List Int) : l = tabn l.length (fun j => l.getD j 0) := by
  apply List.ext_getElem?
  intro i
  by_cases hi : i < l.length
  · rw [tabn_get hi, List.getD_eq_getElem?_getD, List.getElem?_eq_getElem hi]; rfl
  · rw [List.getElem?_eq_none (by omega), List.getElem?_eq_none (by rw [za2]; omega)]
theorem zb8 (n : Nat) : List.replicate n (0 : Int) = tabn n (fun _ => 0) := by
  apply List.ext_getElem?
  intro i
  by_cases hi : i < n
  · rw [tabn_get hi, List.getElem?_replicate, if_pos hi]
  · rw [List.getElem?_eq_none (by rw [List.length_replicate]; omega), List.getElem?_eq_none (by rw [za2]; omega)]

/-! ### how many of each length -/
def cn (l : List Int) (j : Nat) : Nat := if j = 0 then 0 else l.countP (fun x => x == (j : Int))
/-! ### where each length begins -/
def F (c : Nat → Nat) : Nat → Nat
  | 0 => 0
  | k + 1 => (c k + F c k) * 2
def S (c : Nat → Nat) : Nat → Nat
  | 0 => 0
  | k + 1 => S c k + c k
/-! ### codes and their order -/
/-- The length of a symbol's code. -/
def ln (l : List Int) (i : Nat) : Nat := (l.getD i 0).toNat
def rank (l : List Int) (i : Nat) : Nat := cn (l.take i) (ln l i)
def code (l : List Int) (i : Nat) : Nat := if ln l i = 0 then 0 else F (cn l) (ln l i) + rank l i
def pos (l : List Int) (i : Nat) : Nat := S (cn l) (ln l i) + rank l i
end Go.Proofs.YtdifgiceallpiaaDoor.Cn
