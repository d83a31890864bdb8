/- suffix: what the laws share, plainly. -/
import Derived.Test.YtchieiajpocpmaaHSf
import Derived.Test.YtchieiajpocpmaaPx1
import Derived.Test.YtchieiajpocpmaaPx2
import Derived.Test.YtchieiajpocpmaaPx3
set_option linter.unusedVariables false
set_option linter.unusedSimpArgs false
set_option linter.unusedSectionVars false
namespace Go.Proofs.Ytchieiajpocpmaa.Pure
open Go Go.RowKit Go.Proofs.YtchieiajpocpmaaW.PrintWords Go.Proofs.YtchieiajpocpmaaW.PrintMore Go.Proofs.Ytchieiajpocpmaa.P Go.Proofs.Ytchieiajpocpmaa.Com Go.Proofs.Ytchieiajpocpmaa.Hd Go.Proofs.Ytchieiajpocpmaa.Hw Go.Proofs.Ytchieiajpocpmaa.Cn Go.Proofs.Ytchieiajpocpmaa.Sais Go.Proofs.Ytchieiajpocpmaa.Bk
set_option maxRecDepth 100000 in
theorem awake_true : gladstonelaw19_awake.f 40 = some true := by decide +kernel
theorem awake_ev : Ev (fun k => gladstonelaw19_awake.f k) true := Ev.of (fun k => gladstonelaw19_awake.mono k) awake_true
theorem eq_drop {l m : List Int} {i : Nat} (h1 : i < l.length) (h2 : i < m.length) : (l.drop i = m.drop i) ↔ (rd l (i : Int) = rd m (i : Int) ∧ l.drop (i + 1) = m.drop (i + 1)) := by
  rw [List.drop_eq_getElem_cons h1, List.drop_eq_getElem_cons h2, List.cons.injEq, rd_nat, rd_nat, List.getD_eq_getElem?_getD, List.getD_eq_getElem?_getD, List.getElem?_eq_getElem h1, List.getElem?_eq_getElem h2]
  rfl
theorem ints_l0 (l m : List Int) (hm : l.length = m.length) (hl : l.length ≤ 140737488355328) (d : Nat) : ∀ i : Nat, i + d = l.length → Ev (fun k => gladstoneref08_Ints.l0 k l m (i : Int)) (decide (l.drop i = m.drop i)) := by
  induction d with
  | zero =>
    intro i hi
    refine Ev.step (f := fun _ => some _) (fun k => ?_) (Ev.now _)
    simp only [gladstoneref08_Ints.l0]
    rw [if_neg (by omega), List.drop_eq_nil_of_le (by omega), List.drop_eq_nil_of_le (by omega)]
    rfl
  | succ d ih =>
    intro i hi
    by_cases h : rd l (i : Int) = rd m (i : Int)
    · refine Ev.step (f := fun k => gladstoneref08_Ints.l0 k l m ((i + 1 : Nat) : Int)) (fun k => ?_) ?_
      · simp only [gladstoneref08_Ints.l0]
        rw [if_pos (by omega), if_pos (by omega), if_pos (by omega), if_pos h, w64 (by omega) (by omega)]
        rfl
      · have e : decide (l.drop i = m.drop i) = decide (l.drop (i + 1) = m.drop (i + 1)) := decide_eq_decide.2 ((eq_drop (by omega) (by omega)).trans ⟨fun x => x.2, fun x => ⟨h, x⟩⟩)
        rw [e]
        exact ih (i + 1) (by omega)
    · refine Ev.step (f := fun _ => some _) (fun k => ?_) (Ev.now _)
      simp only [gladstoneref08_Ints.l0]
      rw [if_pos (by omega), if_pos (by omega), if_pos (by omega), if_neg h]
      rw [decide_eq_false (fun x => h ((eq_drop (by omega) (by omega)).1 x).1)]
theorem ints_ev (l m : List Int) (hl : l.length ≤ 140737488355328) : Ev (fun k => gladstoneref08_Ints.f k l m) (decide (l = m)) := by
  unfold gladstoneref08_Ints.f
  by_cases h : l.length = m.length
  · refine Ev.ifp (by omega) ?_
    have := ints_l0 l m h hl l.length 0 (by omega)
    rw [List.drop_zero, List.drop_zero] at this
    exact this
  · refine Ev.ifn (by omega) ?_
    rw [decide_eq_false (fun e => h (by rw [e]))]
    exact Ev.now _
theorem seq_l0 (l m : List Int) (hm : l.length = m.length) (hl : l.length ≤ 140737488355328) (d : Nat) : ∀ i : Nat, i + d = l.length → Ev (fun k => slices_Equal_int_int.l0 k l m (l.length : Int) (i : Int)) (decide (l.drop i = m.drop i)) := by
  induction d with
  | zero =>
    intro i hi
    refine Ev.step (f := fun _ => some _) (fun k => ?_) (Ev.now _)
    simp only [slices_Equal_int_int.l0]
    rw [if_neg (by omega), List.drop_eq_nil_of_le (by omega), List.drop_eq_nil_of_le (by omega)]
    rfl
  | succ d ih =>
    intro i hi
    by_cases h : rd l (i : Int) = rd m (i : Int)
    · refine Ev.step (f := fun k => slices_Equal_int_int.l0 k l m (l.length : Int) ((i + 1 : Nat) : Int)) (fun k => ?_) ?_
      · simp only [slices_Equal_int_int.l0]
        rw [if_pos (by omega), if_pos (by omega), if_pos (by omega), if_pos (by omega), if_pos h, w64 (by omega) (by omega)]
        rfl
      · have e : decide (l.drop i = m.drop i) = decide (l.drop (i + 1) = m.drop (i + 1)) := decide_eq_decide.2 ((eq_drop (by omega) (by omega)).trans ⟨fun x => x.2, fun x => ⟨h, x⟩⟩)
        rw [e]
        exact ih (i + 1) (by omega)
    · refine Ev.step (f := fun _ => some _) (fun k => ?_) (Ev.now _)
      simp only [slices_Equal_int_int.l0]
      rw [if_pos (by omega), if_pos (by omega), if_pos (by omega), if_pos (by omega), if_neg h]
      rw [decide_eq_false (fun x => h ((eq_drop (by omega) (by omega)).1 x).1)]
theorem seq_ev (l m : List Int) (hl : l.length ≤ 140737488355328) : Ev (fun k => slices_Equal_int_int.f k l m) (decide (l = m)) := by
  unfold slices_Equal_int_int.f
  by_cases h : l.length = m.length
  · refine Ev.ifp (by omega) ?_
    have := seq_l0 l m h hl l.length 0 (by omega)
    rw [List.drop_zero, List.drop_zero] at this
    exact this
  · refine Ev.ifn (by omega) ?_
    rw [decide_eq_false (fun e => h (by rw [e]))]
    exact Ev.now _
theorem lt_map : ∀ (x y : List UInt8), (x < y) ↔ (x.map UInt8.toNat < y.map UInt8.toNat)
  | [], [] => by simp
  | _ :: _, [] => by simp
  | [], _ :: _ => by simp
  | a :: x, b :: y => by
    rw [List.map_cons, List.map_cons, List.cons_lt_cons_iff, List.cons_lt_cons_iff, lt_map x y, UInt8.lt_iff_toNat_lt, UInt8.toNat_inj]
theorem nb_ext (s : ByteArray) (i : Nat) : ((s.extract i s.size).toList).map UInt8.toNat = (nb s).drop i := by
  rw [ByteArray.toList_eq]
  unfold nb
  rw [← List.map_drop]
  congr 1
  simp [ByteArray.data_extract, Array.toList_extract, List.extract_eq_take_drop]
  try (rw [List.take_of_length_le]; simp)
theorem bl_drop (s : ByteArray) (i q : Nat) : Op.bytesLess ((s.extract i s.size).toList) ((s.extract q s.size).toList) = decide ((nb s).drop i < (nb s).drop q) := by
  rw [bl_lt]
  refine decide_eq_decide.2 ?_
  rw [lt_map, nb_ext, nb_ext]
theorem ins_ev {s : ByteArray} {l : List Nat} {i : Nat} (hs : s.size ≤ 1073741824) (hl : l.length ≤ s.size) (hm : ∀ y ∈ l, y < s.size) (hi : i < s.size) (at_ : Nat) : at_ ≤ l.length → ∀ r : List Int,
    Ev (fun k => gladstoneref19_Sort.l0 k s (iN (l.take (plc (nb s) l i at_) ++ i :: l.drop (plc (nb s) l i at_))) ((i : Int) - 1)) r → Ev (fun k => gladstoneref19_Sort.l1 k s (iN l) (i : Int) (at_ : Int)) r := by
  have hfin : ∀ a, a ≤ l.length → ((iN l).take a).length ≤ 1073741824 := fun a ha => by rw [List.length_take, iN_len]; omega
  have hcat : ∀ a, ((([] : List Int) ++ (iN l).take a) ++ [(i : Int)]) ++ (iN l).drop a = iN (l.take a ++ i :: l.drop a) := fun a => by
    unfold iN
    simp [List.map_take, List.map_drop]
  induction at_ with
  | zero =>
    intro _ r h
    refine Ev.step (f := fun k => gladstoneref19_Sort.l0 k s (iN (l.take (plc (nb s) l i 0) ++ i :: l.drop (plc (nb s) l i 0))) ((i : Int) - 1)) (fun k => ?_) h
    simp only [gladstoneref19_Sort.l1]
    rw [if_neg (by omega), if_pos (by omega), if_pos (by omega)]
    simp only [Option.bind_some]
    rw [if_pos (by simp), if_pos (by simp), if_pos (by simp [iN_len]; omega), w64 (by omega) (by omega)]
    have := hcat 0
    simp only [Int.toNat_natCast] at this ⊢
    rw [this]
    rfl
  | succ a ih =>
    intro ha r h
    have hrd : rd (iN l) (a : Int) = ((l.getD a 0 : Nat) : Int) := by rw [rd_nat, iN_getD]
    have hlt : l.getD a 0 < s.size := hm _ (by rw [List.getD_eq_getElem?_getD, List.getElem?_eq_getElem (by omega)]; exact List.getElem_mem _)
    have hw : wrap64 (((a + 1 : Nat) : Int) - 1) = (a : Int) := by rw [w64 (by omega) (by omega)]; omega
    unfold plc at h
    by_cases hc : (nb s).drop i < (nb s).drop (l.getD a 0)
    · rw [if_pos hc] at h
      refine Ev.step (f := fun k => gladstoneref19_Sort.l1 k s (iN l) (i : Int) (a : Int)) (fun k => ?_) (ih (by omega) r h)
      simp only [gladstoneref19_Sort.l1]
      rw [hw, hrd]
      rw [if_pos (by omega), if_pos (by omega), if_pos (by rw [iN_len]; omega), if_pos (by omega), if_pos (by omega), if_pos (by omega), if_pos (by omega), Int.toNat_natCast, Int.toNat_natCast, bl_drop, if_pos (decide_eq_true hc)]
    · rw [if_neg hc] at h
      refine Ev.step (f := fun k => gladstoneref19_Sort.l0 k s (iN (l.take (a + 1) ++ i :: l.drop (a + 1))) ((i : Int) - 1)) (fun k => ?_) h
      simp only [gladstoneref19_Sort.l1]
      rw [hw, hrd]
      rw [if_pos (by omega), if_pos (by omega), if_pos (by rw [iN_len]; omega), if_pos (by omega), if_pos (by omega), if_pos (by omega), if_pos (by omega), Int.toNat_natCast, Int.toNat_natCast, bl_drop, if_neg (by rw [decide_eq_true_eq]; exact hc)]
      rw [if_pos (by omega), if_pos (by rw [iN_len]; omega)]
      simp only [Option.bind_some]
      have hn : (((a + 1 : Nat) : Int)).toNat = a + 1 := Int.toNat_natCast _
      have hf := hfin (a + 1) ha
      rw [hn, if_pos (by rw [List.length_nil]; omega), if_pos (by rw [List.nil_append]; omega), if_pos (by rw [List.length_append, List.nil_append, List.length_drop, iN_len, List.length_singleton]; omega), hcat, w64 (by omega) (by omega)]
theorem sort_l0 {s : ByteArray} (hs : s.size ≤ 1073741824) (d : Nat) : ∀ j, j + d = s.size → Ev (fun k => gladstoneref19_Sort.l0 k s (iN (inN (nb s) j)) ((s.size : Int) - 1 - (j : Int))) (iN (srtN (nb s))) := by
  induction d with
  | zero =>
    intro j hj
    refine Ev.step (f := fun _ => some _) (fun k => ?_) (Ev.now _)
    simp only [gladstoneref19_Sort.l0]
    rw [if_neg (by omega)]
    unfold srtN
    rw [nb_length, show j = s.size from by omega]
  | succ d ih =>
    intro j hj
    obtain ⟨i, hi⟩ : ∃ i, s.size - 1 - j = i := ⟨_, rfl⟩
    have I := inN_ok (x := nb s) j (by rw [nb_length]; omega)
    refine Ev.step (f := fun k => gladstoneref19_Sort.l1 k s (iN (inN (nb s) j)) (i : Int) (((inN (nb s) j).length : Nat) : Int)) (fun k => ?_) ?_
    · simp only [gladstoneref19_Sort.l0]
      rw [if_pos (by omega), iN_len, show (s.size : Int) - 1 - (j : Int) = (i : Int) from by omega]
    · refine ins_ev hs (by rw [I.len]; omega) (fun y hy => by have := I.lt y hy; rw [nb_length] at this; exact this) (by omega) _ (Nat.le_refl _) _ ?_
      have := ih (j + 1) (by omega)
      unfold inN at this
      rw [nb_length, hi] at this
      rw [show (i : Int) - 1 = (s.size : Int) - 1 - ((j + 1 : Nat) : Int) from by omega]
      exact this
theorem sort_ev {s : ByteArray} (hs : s.size ≤ 1073741824) : Ev (fun k => gladstoneref19_Sort.f k s) (iN (srtN (nb s))) := by
  have := sort_l0 hs s.size 0 (by omega)
  unfold gladstoneref19_Sort.f
  rw [w64 (by omega) (by omega)]
  exact (Ev.congr (fun k => by rw [show (s.size : Int) - 1 - ((0 : Nat) : Int) = (s.size : Int) - 1 from by omega]; rfl) this)
/-- Where a number stands first, among the last so many. -/
def vF (zs : List Int) (y : Nat) : Nat → Int
  | 0 => -1
  | m + 1 => if rd zs ((zs.length - 1 - m : Nat) : Int) = (y : Int) then ((zs.length - 1 - m : Nat) : Int) else vF zs y m
theorem rk_v {zs : List Int} {y : Nat} (hy : y < zs.length) : ∀ m, rkF zs.length (upto zs m) y = vF zs y m := by
  intro m
  induction m with
  | zero => rfl
  | succ m ih =>
    rw [upto_succ, rkF_snoc]
    unfold vF
    rw [rd_nat, List.getD_eq_getElem?_getD]
    generalize zs[zs.length - 1 - m]?.getD 0 = v
    by_cases h : v = (y : Int)
    · rw [if_pos h, h, if_pos ⟨by omega, by omega⟩]
      rw [Int.toNat_natCast, if_pos rfl]
    · rw [if_neg h]
      by_cases hv : 0 ≤ v ∧ v < (zs.length : Int)
      · rw [if_pos hv]
        have : y ≠ v.toNat := by omega
        rw [if_neg this]
        exact ih
      · rw [if_neg hv]
        exact ih
def tV (zs : List Int) (i m : Nat) : List Int := tabn zs.length (fun y => if y < i then vF zs y zs.length else if y = i then vF zs i m else 0)
theorem set_tab {n j : Nat} {f f' : Nat → Int} {v : Int} (h : ∀ y, y < n → (if y = j then v else f y) = f' y) : (tabn n f).set j v = tabn n f' := (tabn_set j v).trans (tabn_congr h)
theorem rk_l1 {zs : List Int} (hn : zs.length ≤ 1073741824) {i : Nat} (hi : i < zs.length) (r : List Int) (hr : Ev (fun k => gladstoneref19_Ranks.l0 k zs (tV zs i zs.length) ((i + 1 : Nat) : Int)) r) (d : Nat) : ∀ m, m + d = zs.length →
    Ev (fun k => gladstoneref19_Ranks.l1 k zs (tV zs i m) (i : Int) ((zs.length : Int) - 1 - (m : Int))) r := by
  induction d with
  | zero =>
    intro m hm
    refine Ev.step (f := fun k => gladstoneref19_Ranks.l0 k zs (tV zs i zs.length) ((i + 1 : Nat) : Int)) (fun k => ?_) hr
    simp only [gladstoneref19_Ranks.l1]
    rw [if_neg (by omega), w64 (by omega) (by omega), show m = zs.length from by omega]
    rfl
  | succ d ih =>
    intro m hm
    obtain ⟨q, hq⟩ : ∃ q, zs.length - 1 - m = q := ⟨_, rfl⟩
    have hq2 : (zs.length : Int) - 1 - (m : Int) = (q : Int) := by omega
    have hw : wrap64 ((q : Int) - 1) = (zs.length : Int) - 1 - ((m + 1 : Nat) : Int) := by rw [w64 (by omega) (by omega)]; omega
    refine Ev.step (f := fun k => gladstoneref19_Ranks.l1 k zs (tV zs i (m + 1)) (i : Int) ((zs.length : Int) - 1 - ((m + 1 : Nat) : Int))) (fun k => ?_) (ih (m + 1) (by omega))
    simp only [gladstoneref19_Ranks.l1]
    rw [hq2, if_pos (by omega), if_pos (by omega), if_pos (by omega), hw]
    have hv : vF zs i (m + 1) = if rd zs (q : Int) = (i : Int) then (q : Int) else vF zs i m := by rw [← hq]; rfl
    by_cases h : rd zs (q : Int) = (i : Int)
    · rw [if_pos h] at hv
      rw [if_pos h, if_pos (by omega), if_pos (by unfold tV; rw [tabn_length]; omega), Int.toNat_natCast]
      have e : (tV zs i m).set i (q : Int) = tV zs i (m + 1) := set_tab (fun y hy => by
        by_cases e : y = i
        · rw [if_pos e, if_neg (by omega), if_pos e, hv]
        · rw [if_neg e, if_neg e, if_neg e])
      rw [e]
    · rw [if_neg h] at hv
      rw [if_neg h]
      have e : tV zs i m = tV zs i (m + 1) := by unfold tV; rw [hv]
      rw [e]
theorem rk_l0 {zs : List Int} (hn : zs.length ≤ 1073741824) (d : Nat) : ∀ i, i + d = zs.length → Ev (fun k => gladstoneref19_Ranks.l0 k zs (tabn zs.length (fun y => if y < i then vF zs y zs.length else 0)) (i : Int)) (tabn zs.length (fun y => vF zs y zs.length)) := by
  induction d with
  | zero =>
    intro i hi
    refine Ev.step (f := fun _ => some _) (fun k => ?_) (Ev.now _)
    simp only [gladstoneref19_Ranks.l0]
    rw [if_neg (by omega)]
    congr 1
    exact tabn_congr (fun y hy => by rw [if_pos (by omega)])
  | succ d ih =>
    intro i hi
    have h1 := rk_l1 hn (i := i) (by omega) (tabn zs.length (fun y => vF zs y zs.length)) ?_ zs.length 0 (by omega)
    · refine Ev.step (f := fun k => gladstoneref19_Ranks.l1 k zs (tV zs i 0) (i : Int) ((zs.length : Int) - 1 - ((0 : Nat) : Int))) (fun k => ?_) h1
      simp only [gladstoneref19_Ranks.l0]
      rw [if_pos (by omega), if_pos (by omega), if_pos (by rw [tabn_length]; omega), Int.toNat_natCast, w64 (by omega) (by omega)]
      have e : (tabn zs.length (fun y => if y < i then vF zs y zs.length else 0)).set i (-1) = tV zs i 0 := set_tab (fun y hy => by
        by_cases e : y = i
        · rw [if_pos e, if_neg (by omega), if_pos e]; rfl
        · rw [if_neg e, if_neg e])
      rw [e, show (zs.length : Int) - 1 - ((0 : Nat) : Int) = (zs.length : Int) - 1 from by omega]
    · have := ih (i + 1) (by omega)
      have e : tabn zs.length (fun y => if y < i + 1 then vF zs y zs.length else 0) = tV zs i zs.length := tabn_congr (fun y hy => by
        by_cases e : y = i
        · rw [if_pos (by omega), if_neg (by omega), if_pos e, e]
        · by_cases h2 : y < i
          · rw [if_pos (by omega), if_pos h2]
          · rw [if_neg (by omega), if_neg h2, if_neg e])
      rw [e] at this
      exact this
theorem ranks_ev {zs : List Int} (hn : zs.length ≤ 1073741824) : Ev (fun k => gladstoneref19_Ranks.f k zs) (tabn zs.length (rkF zs.length (upto zs zs.length))) := by
  have h := rk_l0 hn zs.length 0 (by omega)
  have e : tabn zs.length (fun y => if y < 0 then vF zs y zs.length else 0) = List.replicate ((zs.length : Int)).toNat 0 := by
    rw [Int.toNat_natCast]
    exact (tabn_congr (fun y hy => by rw [if_neg (by omega)])).trans (tabn_zero _).symm
  rw [e] at h
  have e2 : tabn zs.length (rkF zs.length (upto zs zs.length)) = tabn zs.length (fun y => vF zs y zs.length) := tabn_congr (fun y hy => rk_v hy _)
  rw [e2]
  refine Ev.congr (fun k => ?_) h
  unfold gladstoneref19_Ranks.f
  rw [if_pos (by omega), if_pos (by rw [Int.toNat_natCast]; omega)]
  rfl
end Go.Proofs.Ytchieiajpocpmaa.Pure
