/- Bytes as numbers: this session's own lemmas. -/
import Derived.Test.YtdifgiceallpiaaDoorXCom
import Derived.Lib.Strings
set_option linter.unusedVariables false
set_option linter.unusedSimpArgs false
set_option linter.unusedSectionVars false
namespace Go.Proofs.YtdifgiceallpiaaDoor.Com
open Go.RowKit Go.Proofs.YtdifgiceallpiaaDoorW.PrintWords

/-- A string's bytes, as numbers. -/
def nb (s : ByteArray) : List Nat := s.data.toList.map UInt8.toNat
theorem zas (s : ByteArray) : (nb s).length = s.size := by simp [nb]
theorem nb_lt (s : ByteArray) : ∀ x ∈ nb s, x < 256 := by
  intro x hx
  obtain ⟨b, _, rfl⟩ := List.mem_map.1 hx
  exact b.toNat_lt
theorem nb_inj {s t : ByteArray} (h : nb s = nb t) : s = t := by
  have h1 : s.data.toList = t.data.toList := by
    refine List.map_inj_right (f := UInt8.toNat) (fun a b hab => UInt8.toNat_inj.1 hab) |>.1 h
  cases s; cases t
  congr 1
  exact Array.toList_inj.1 h1
theorem nb_append (s t : ByteArray) : nb (s ++ t) = nb s ++ nb t := by
  simp [nb, ByteArray.data_append]
theorem nb_extract (s : ByteArray) (a b : Nat) : nb (s.extract a b) = ((nb s).drop a).take (b - a) := by
  have h := Go.Lib.extract_toList s a b
  rw [ByteArray.toList_eq] at h
  unfold nb
  rw [h, List.map_take, List.map_drop]
theorem nb_str (l : List Nat) (h : ∀ x ∈ l, x < 256) : nb (strOfNums (l.map (fun n : Nat => (n : Int)))) = l := by
  unfold nb strOfNums
  simp only [List.map_map]
  induction l with
  | nil => rfl
  | cons a t ih =>
    have ha := h a (by simp)
    have := ih (fun x hx => h x (by simp [hx]))
    simp only [List.map_cons, Function.comp, List.cons.injEq] at this ⊢
    refine ⟨?_, this⟩
    simp [UInt8.toNat_ofNat']
    omega
theorem bt_nb (s : ByteArray) (i : Nat) : bt s (i : Int) = (((nb s).getD i 0 : Nat) : Int) := by
  unfold bt
  have hi : ((i : Int)).toNat = i := by simp
  by_cases h : i < s.size
  · rw [dif_pos (by rw [hi]; exact h)]
    have h2 : i < s.data.toList.length := by simpa using h
    have h3 : s.data[i]? = some (s.data[i]'(by simpa using h2)) := Array.getElem?_eq_getElem _
    simp [nb, List.getD_eq_getElem?_getD, List.getElem?_map, h3]
    rfl
  · rw [dif_neg (by rw [hi]; exact h)]
    have : (nb s).length ≤ i := by rw [zas]; omega
    simp [List.getD_eq_getElem?_getD, List.getElem?_eq_none this]
end Go.Proofs.YtdifgiceallpiaaDoor.Com
