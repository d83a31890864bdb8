/- suffix: the order by insertion, plainly. -/
import Derived.Test.YtfmgoealbaihjaaHRs
import Derived.Test.YtfmgoealbaihjaaHSfS
set_option linter.unusedVariables false
set_option linter.unusedSimpArgs false
set_option linter.unusedSectionVars false
namespace Go.Proofs.Ytfmgoealbaihjaa.Pure
open Go Go.RowKit Go.Proofs.YtfmgoealbaihjaaW.PrintWords Go.Proofs.YtfmgoealbaihjaaW.PrintMore Go.Proofs.Ytfmgoealbaihjaa.P Go.Proofs.Ytfmgoealbaihjaa.Com Go.Proofs.Ytfmgoealbaihjaa.Hd Go.Proofs.Ytfmgoealbaihjaa.Hw Go.Proofs.Ytfmgoealbaihjaa.Cn Go.Proofs.Ytfmgoealbaihjaa.Sais
theorem lt_map : ∀ (x y : List UInt8), (x < y) ↔ (x.map UInt8.toNat < y.map UInt8.toNat)
  | [], [] => by simp
  | _ :: _, [] => by simp
  | [], _ :: _ => by simp
  | a :: x, b :: y => by
    rw [List.map_cons, List.map_cons, List.cons_lt_cons_iff, List.cons_lt_cons_iff, lt_map x y, UInt8.lt_iff_toNat_lt, UInt8.toNat_inj]
theorem nb_ext (s : ByteArray) (i : Nat) : ((s.extract i s.size).toList).map UInt8.toNat = (nb s).drop i := by
  rw [ByteArray.toList_eq]
  unfold nb
  rw [← List.map_drop]
  congr 1
  simp [ByteArray.data_extract, Array.toList_extract, List.extract_eq_take_drop]
  try (rw [List.take_of_length_le]; simp)
theorem bl_drop (s : ByteArray) (i q : Nat) : Op.bytesLess ((s.extract i s.size).toList) ((s.extract q s.size).toList) = decide ((nb s).drop i < (nb s).drop q) := by
  rw [bl_lt]
  refine decide_eq_decide.2 ?_
  rw [lt_map, nb_ext, nb_ext]
theorem ins_ev {s : ByteArray} {l : List Nat} {i : Nat} (hs : s.size ≤ 1073741824) (hl : l.length ≤ s.size) (hm : ∀ y ∈ l, y < s.size) (hi : i < s.size) (at_ : Nat) : at_ ≤ l.length → ∀ r : List Int,
    Ev (fun k => gladstoneref19_Sort.l0 k s (iN (l.take (plc (nb s) l i at_) ++ i :: l.drop (plc (nb s) l i at_))) ((i : Int) - 1)) r → Ev (fun k => gladstoneref19_Sort.l1 k s (iN l) (i : Int) (at_ : Int)) r := by
  have hfin : ∀ a, a ≤ l.length → ((iN l).take a).length ≤ 1073741824 := fun a ha => by rw [List.length_take, iN_len]; omega
  have hcat : ∀ a, ((([] : List Int) ++ (iN l).take a) ++ [(i : Int)]) ++ (iN l).drop a = iN (l.take a ++ i :: l.drop a) := fun a => by
    unfold iN
    simp [List.map_take, List.map_drop]
  induction at_ with
  | zero =>
    intro _ r h
    refine Ev.step (f := fun k => gladstoneref19_Sort.l0 k s (iN (l.take (plc (nb s) l i 0) ++ i :: l.drop (plc (nb s) l i 0))) ((i : Int) - 1)) (fun k => ?_) h
    simp only [gladstoneref19_Sort.l1]
    rw [if_neg (by omega), if_pos (by omega), if_pos (by omega)]
    simp only [Option.bind_some]
    rw [if_pos (by simp), if_pos (by simp), if_pos (by simp [iN_len]; omega), w64 (by omega) (by omega)]
    have := hcat 0
    simp only [Int.toNat_natCast] at this ⊢
    rw [this]
    rfl
  | succ a ih =>
    intro ha r h
    have hrd : rd (iN l) (a : Int) = ((l.getD a 0 : Nat) : Int) := by rw [rd_nat, iN_getD]
    have hlt : l.getD a 0 < s.size := hm _ (by rw [List.getD_eq_getElem?_getD, List.getElem?_eq_getElem (by omega)]; exact List.getElem_mem _)
    have hw : wrap64 (((a + 1 : Nat) : Int) - 1) = (a : Int) := by rw [w64 (by omega) (by omega)]; omega
    unfold plc at h
    by_cases hc : (nb s).drop i < (nb s).drop (l.getD a 0)
    · rw [if_pos hc] at h
      refine Ev.step (f := fun k => gladstoneref19_Sort.l1 k s (iN l) (i : Int) (a : Int)) (fun k => ?_) (ih (by omega) r h)
      simp only [gladstoneref19_Sort.l1]
      rw [hw, hrd]
      rw [if_pos (by omega), if_pos (by omega), if_pos (by rw [iN_len]; omega), if_pos (by omega), if_pos (by omega), if_pos (by omega), if_pos (by omega), Int.toNat_natCast, Int.toNat_natCast, bl_drop, if_pos (decide_eq_true hc)]
    · rw [if_neg hc] at h
      refine Ev.step (f := fun k => gladstoneref19_Sort.l0 k s (iN (l.take (a + 1) ++ i :: l.drop (a + 1))) ((i : Int) - 1)) (fun k => ?_) h
      simp only [gladstoneref19_Sort.l1]
      rw [hw, hrd]
      rw [if_pos (by omega), if_pos (by omega), if_pos (by rw [iN_len]; omega), if_pos (by omega), if_pos (by omega), if_pos (by omega), if_pos (by omega), Int.toNat_natCast, Int.toNat_natCast, bl_drop, if_neg (by rw [decide_eq_true_eq]; exact hc)]
      rw [if_pos (by omega), if_pos (by rw [iN_len]; omega)]
      simp only [Option.bind_some]
      have hn : (((a + 1 : Nat) : Int)).toNat = a + 1 := Int.toNat_natCast _
      have hf := hfin (a + 1) ha
      rw [hn, if_pos (by rw [List.length_nil]; omega), if_pos (by rw [List.nil_append]; omega), if_pos (by rw [List.length_append, List.nil_append, List.length_drop, iN_len, List.length_singleton]; omega), hcat, w64 (by omega) (by omega)]
theorem sort_l0 {s : ByteArray} (hs : s.size ≤ 1073741824) (d : Nat) : ∀ j, j + d = s.size → Ev (fun k => gladstoneref19_Sort.l0 k s (iN (inN (nb s) j)) ((s.size : Int) - 1 - (j : Int))) (iN (srtN (nb s))) := by
  induction d with
  | zero =>
    intro j hj
    refine Ev.step (f := fun _ => some _) (fun k => ?_) (Ev.now _)
    simp only [gladstoneref19_Sort.l0]
    rw [if_neg (by omega)]
    unfold srtN
    rw [nb_length, show j = s.size from by omega]
  | succ d ih =>
    intro j hj
    obtain ⟨i, hi⟩ : ∃ i, s.size - 1 - j = i := ⟨_, rfl⟩
    have I := inN_ok (x := nb s) j (by rw [nb_length]; omega)
    refine Ev.step (f := fun k => gladstoneref19_Sort.l1 k s (iN (inN (nb s) j)) (i : Int) (((inN (nb s) j).length : Nat) : Int)) (fun k => ?_) ?_
    · simp only [gladstoneref19_Sort.l0]
      rw [if_pos (by omega), iN_len, show (s.size : Int) - 1 - (j : Int) = (i : Int) from by omega]
    · refine ins_ev hs (by rw [I.len]; omega) (fun y hy => by have := I.lt y hy; rw [nb_length] at this; exact this) (by omega) _ (Nat.le_refl _) _ ?_
      have := ih (j + 1) (by omega)
      unfold inN at this
      rw [nb_length, hi] at this
      rw [show (i : Int) - 1 = (s.size : Int) - 1 - ((j + 1 : Nat) : Int) from by omega]
      exact this
theorem sort_ev {s : ByteArray} (hs : s.size ≤ 1073741824) : Ev (fun k => gladstoneref19_Sort.f k s) (iN (srtN (nb s))) := by
  have := sort_l0 hs s.size 0 (by omega)
  unfold gladstoneref19_Sort.f
  rw [w64 (by omega) (by omega)]
  exact (Ev.congr (fun k => by rw [show (s.size : Int) - 1 - ((0 : Nat) : Int) = (s.size : Int) - 1 from by omega]; rfl) this)
end Go.Proofs.Ytfmgoealbaihjaa.Pure
