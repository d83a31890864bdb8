/- The document's bits (gladstoneref01), plainly: one bit. -/
import Derived.Test.YtoondlhlcmjniaaZBts
import Derived.Test.YtoondlhlcmjniaaZPx9
set_option linter.unusedVariables false
set_option linter.unusedSimpArgs false
set_option linter.unusedSectionVars false
namespace Go.Proofs.Ytoondlhlcmjniaa.Com
open Go.RowKit Go.Proofs.YtoondlhlcmjniaaW.PrintWords Go.Proofs.YtoondlhlcmjniaaW.PrintMore Go.Proofs.Ytoondlhlcmjniaa.P

theorem bit_f (x i : Nat) (hx : x < 2 ^ 64) (hi : i ≤ 64) : gladstoneref01_bit.f (x : Int) (i : Int) = some (x / 2 ^ i % 2 == 1) := by
  unfold gladstoneref01_bit.f
  rw [wu64 (x := (i : Int)) (by omega) (by omega), if_pos (by omega), shr_nat _ _ hi]
  have h := low_nat (x / 2 ^ i) 1 (Nat.lt_of_le_of_lt (Nat.div_le_self _ _) hx) (by omega)
  have e1 : ((2 ^ 1 - 1 : Nat) : Int) = 1 := rfl
  rw [e1] at h
  rw [h]
  generalize x / 2 ^ i = y
  congr 1
  rw [Bool.eq_iff_iff, beq_iff_eq, beq_iff_eq]; omega

theorem take_snocB (l : List Bool) (i : Nat) (h : i < l.length) : l.take (i + 1) = l.take i ++ [l.getD i false] := by
  rw [List.take_add_one, List.getElem?_eq_getElem h]
  simp [List.getD_eq_getElem?_getD, List.getElem?_eq_getElem h]
theorem bits_l1 (s : ByteArray) (hs : s.size ≤ 1099511627776) (j : Nat) (hj : j < s.size) (pre : List Bool) (hp : pre.length = 8 * j) (res : List Bool)
    (h : Ev (fun k => gladstoneref01_Bits.l0 k s (pre ++ nbits 8 ((nb s).getD j 0)) ((j + 1 : Nat) : Int)) res) (d : Nat) :
    ∀ i : Nat, i + d = 8 → Ev (fun k => gladstoneref01_Bits.l1 k s (pre ++ nbits i ((nb s).getD j 0)) (j : Int) (i : Int)) res := by
  have hb : (nb s).getD j 0 < 256 := by
    have hl : j < (nb s).length := by rw [nb_length]; exact hj
    rw [List.getD_eq_getElem?_getD, List.getElem?_eq_getElem hl]
    exact nb_lt s _ (List.getElem_mem hl)
  induction d with
  | zero =>
    intro i hi
    obtain rfl : i = 8 := by omega
    refine Ev.step (fun k => ?_) h
    simp only [gladstoneref01_Bits.l1]
    rw [if_neg (by omega), w64 (by omega) (by omega)]
    rfl
  | succ d ih =>
    intro i hi
    refine Ev.step (fun k => ?_) (ih (i + 1) (by omega))
    simp only [gladstoneref01_Bits.l1]
    have hlen : (pre ++ nbits i ((nb s).getD j 0)).length < 140737488355328 := by rw [List.length_append, nbits_length]; omega
    rw [if_pos (by omega), if_pos (by omega), if_pos (by omega), bt_nb, wu64 (by omega) (by omega), bit_f _ _ (by omega) (by omega), Option.bind_some, if_pos hlen, w64 (by omega) (by omega), List.append_assoc, ← nbits_snoc]
    rfl
theorem bits_l0 (s : ByteArray) (hs : s.size ≤ 1099511627776) (d : Nat) : ∀ j : Nat, j + d = s.size → Ev (fun k => gladstoneref01_Bits.l0 k s (bb ((nb s).take j)) (j : Int)) (bb (nb s)) := by
  induction d with
  | zero =>
    intro j hj
    refine Ev.step (f := fun _ => some (bb ((nb s).take j))) (fun k => ?_) (Ev.some (by rw [List.take_of_length_le (by rw [nb_length]; omega)]))
    simp only [gladstoneref01_Bits.l0]
    rw [if_neg (by omega)]
  | succ d ih =>
    intro j hj
    have hl : j < (nb s).length := by rw [nb_length]; omega
    have e : (nb s).take (j + 1) = (nb s).take j ++ [(nb s).getD j 0] := by
      rw [List.take_add_one, List.getElem?_eq_getElem hl]
      simp [List.getD_eq_getElem?_getD, List.getElem?_eq_getElem hl]
    have h := ih (j + 1) (by omega)
    rw [e, bb_append] at h
    have e2 : bb [(nb s).getD j 0] = nbits 8 ((nb s).getD j 0) := by rw [bb_cons]; exact List.append_nil _
    rw [e2] at h
    refine Ev.step (fun k => ?_) (bits_l1 s hs j (by omega) (bb ((nb s).take j)) (by rw [bb_length, List.length_take, nb_length]; omega) _ h 8 0 (by omega))
    simp only [gladstoneref01_Bits.l0]
    rw [if_pos (by omega)]
    simp [nbits]
theorem bits_ev (s : ByteArray) (hs : s.size ≤ 1099511627776) : Ev (fun k => gladstoneref01_Bits.f k s) (bb (nb s)) := by
  have h := bits_l0 s hs s.size 0 (by omega)
  have e : bb ((nb s).take 0) = [] := rfl
  rw [e] at h
  exact h

end Go.Proofs.Ytoondlhlcmjniaa.Com
