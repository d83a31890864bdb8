/- The plain laws of chapter 47 (bytes moved to the front). -/
import Derived.Test.YtdifgiceallpiaaDoorXByt
import Derived.Test.YtdifgiceallpiaaDoorXHMtf
set_option linter.unusedVariables false
set_option linter.unusedSimpArgs false
set_option linter.unusedSectionVars false
namespace Go.Proofs.YtdifgiceallpiaaDoor.Pure
open Go.RowKit Go.Proofs.YtdifgiceallpiaaDoorW.PrintWords Go.Proofs.YtdifgiceallpiaaDoorW.PrintMore Go.Proofs.YtdifgiceallpiaaDoor.Hd Go.Proofs.YtdifgiceallpiaaDoor.P Go.Proofs.YtdifgiceallpiaaDoor.Com

/-! ### the row of all bytes -/
theorem getD_ltm {r : List Int} {i : Nat} (h : i < r.length) : r.getD i 0 = r[i] := by simp [List.getD_eq_getElem?_getD, List.getElem?_eq_getElem h]
theorem upto_eq : upto 256 = (List.range 256).map (fun n : Nat => (n : Int)) := by simp [upto]
theorem moved_perm {r : List Int} {i : Nat} (h : i < r.length) : (moved r i).Perm r := by
  have e : r = r.take i ++ r[i] :: r.drop (i + 1) := by rw [← List.drop_eq_getElem_cons h, List.take_append_drop]
  unfold moved
  rw [getD_ltm h]
  conv => rhs; rw [e]
  exact List.perm_middle.symm
/-- A row of all bytes, each once. -/
def Row (r : List Int) : Prop := Full r ∧ r.Perm (upto 256)
theorem Row.start : Row (upto 256) := ⟨full_upto, .refl _⟩
theorem Row.moved {r : List Int} (h : Row r) {i : Nat} (hi : i < 256) : Row (moved r i) :=
  ⟨full_moved h.1 hi, (moved_perm (by rw [h.1.1]; exact hi)).trans h.2⟩
/-! ### there and back -/
theorem bytes_str (l : List Int) (h : ∀ x ∈ l, 0 ≤ x ∧ x ≤ 255) : bytesOf (strOfNums l) = l := by
  have e : l = (l.map Int.toNat).map (fun n : Nat => (n : Int)) := by
    rw [List.map_map]
    conv => lhs; rw [← List.map_id l]
    refine List.map_congr_left fun x hx => ?_
    have := h x hx
    simp; omega
  have hn := nb_str (l.map Int.toNat) (fun x hx => by obtain ⟨y, hy, rfl⟩ := List.mem_map.1 hx; have := h y hy; omega)
  rw [← e] at hn
  have : bytesOf (strOfNums l) = (nb (strOfNums l)).map (fun n : Nat => (n : Int)) := by simp [bytesOf, nb, List.map_map, Function.comp_def]
  rw [this, hn]
  exact e.symm
theorem bytes_byte (s : ByteArray) : ∀ x ∈ bytesOf s, 0 ≤ x ∧ x ≤ 255 := by
  intro x hx
  obtain ⟨b, _, rfl⟩ := List.mem_map.1 hx
  have := b.toNat_lt
  omega
theorem bytes_inj {s t : ByteArray} (h : bytesOf s = bytesOf t) : s = t := by
  refine nb_inj ?_
  have e : ∀ u : ByteArray, nb u = (bytesOf u).map Int.toNat := fun u => by simp [bytesOf, nb, List.map_map, Function.comp_def]
  rw [e, e, h]
theorem str_bytes (s : ByteArray) : strOfNums (bytesOf s) = s := bytes_inj (bytes_str _ (bytes_byte s))

theorem bk_go (l : List Int) : ∀ r, Row r → (∀ x ∈ l, 0 ≤ x ∧ x ≤ 255) → bk r (zbu.go r l) = some l := by
  induction l with
  | nil => intro r _ _; rfl
  | cons c t ih =>
    intro r hr hl
    have hc := hl c (by simp)
    have h1 := idx_lt hr.1 hc.1 hc.2
    simp only [zbu.go, bk]
    rw [if_pos (by omega)]
    have e : ((idx r c : Nat) : Int).toNat = idx r c := by simp
    rw [e, ih _ (hr.moved h1) (fun x hx => hl x (by simp [hx])), idx_at hr.1 hc.1 hc.2]
    rfl
/-! ### the document's -/
theorem room1 (r : List Int) (i : Nat) (h1 : (i : Int) < (r.length : Int)) (hr : r.length ≤ 1000) : ([rd r i] : List Int).length + (r.take ((i : Int)).toNat).length < 140737488355328 := by
  rw [List.length_take]; simp only [List.length_cons, List.length_nil]; omega
theorem room2 (r : List Int) (i j : Nat) (h1 : (i : Int) < (r.length : Int)) (hr : r.length ≤ 1000) : ([rd r i] ++ r.take ((i : Int)).toNat).length + (r.drop j).length < 140737488355328 := by
  simp only [List.length_append, List.length_take, List.length_drop, List.length_cons, List.length_nil]; omega
theorem bt_getD (s : ByteArray) (i : Nat) : bt s (i : Int) = (bytesOf s).getD i 0 := by
  rw [← rd_bytesOf, rd_nat]
end Go.Proofs.YtdifgiceallpiaaDoor.Pure
