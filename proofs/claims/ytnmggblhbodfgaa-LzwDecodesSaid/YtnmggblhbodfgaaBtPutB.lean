/- The document's bits (gladstoneref01), plainly: Put and Bytes. -/
import Derived.Test.YtnmggblhbodfgaaBtRefB
import Derived.Test.YtnmggblhbodfgaaPx4
set_option linter.unusedVariables false
set_option linter.unusedSimpArgs false
set_option linter.unusedSectionVars false
namespace Go.Proofs.Ytnmggblhbodfgaa.Com
open Go.RowKit Go.Proofs.YtnmggblhbodfgaaW.PrintWords Go.Proofs.YtnmggblhbodfgaaW.PrintMore Go.Proofs.Ytnmggblhbodfgaa.P

/-- Putting: bits behind others, or the error. -/
def okP (x n : Int) : Bool := decide (0 ≤ n ∧ n ≤ 56 ∧ x / 2 ^ n.toNat = 0)
def rput (l : List Bool) (x n : Int) : List Bool × Int := if okP x n then (l ++ nbits n.toNat x.toNat, 0) else (l, 2)
theorem rput_l0 (l : List Bool) (hl : l.length ≤ 1099511627776) (x n : Nat) (hx : x < 2 ^ 64) (hn : n ≤ 56) (d : Nat) : ∀ i : Nat, i + d = n → Ev (fun k => gladstoneref01_Put.l0 k (l ++ nbits i x) (x : Int) (n : Int) (i : Int)) (l ++ nbits n x, 0) := by
  induction d with
  | zero =>
    intro i hi
    obtain rfl : i = n := by omega
    refine Ev.step (f := fun _ => some (l ++ nbits i x, 0)) (fun k => ?_) (Ev.now _)
    simp only [gladstoneref01_Put.l0]
    rw [if_neg (by omega)]
  | succ d ih =>
    intro i hi
    refine Ev.step (fun k => ?_) (ih (i + 1) (by omega))
    simp only [gladstoneref01_Put.l0]
    have hlen : (l ++ nbits i x).length < 140737488355328 := by rw [List.length_append, nbits_length]; omega
    rw [if_pos (by omega), bit_f x i hx (by omega), Option.bind_some, if_pos hlen, w64 (by omega) (by omega), List.append_assoc, ← nbits_snoc]
    rfl
theorem rput_ev (l : List Bool) (hl : l.length ≤ 1099511627776) (x n : Int) (h0 : 0 ≤ x) (hx : x < 18446744073709551616) : Ev (fun k => gladstoneref01_Put.f k l x n) (rput l x n) := by
  have he : ∀ k, gladstoneref01_Put.f k l x n = gladstoneref01_Put.j0 k l x n (!okP x n) := by
    intro k
    unfold gladstoneref01_Put.f okP
    by_cases h1 : n < 0
    · rw [if_pos h1, decide_eq_false (by omega)]; rfl
    · by_cases h2 : n > 56
      · rw [if_neg h1, if_pos h2, decide_eq_false (by omega)]; rfl
      · obtain ⟨m, rfl⟩ : ∃ m : Nat, n = m := ⟨n.toNat, by omega⟩
        obtain ⟨y, rfl⟩ : ∃ y : Nat, x = y := ⟨x.toNat, by omega⟩
        rw [if_neg h1, if_neg h2, wu64 (by omega) (by omega), if_pos (by omega), shr_nat _ _ (by omega)]
        congr 1
        have e : ((m : Int)).toNat = m := by simp
        rw [e]
        have e2 : ((y : Int) / 2 ^ m) = ((y / 2 ^ m : Nat) : Int) := by simp
        rw [e2]
        generalize y / 2 ^ m = z
        rw [Bool.eq_iff_iff, bne_iff_ne, Bool.not_eq_true', decide_eq_false_iff_not]
        omega
  refine Ev.congr he ?_
  unfold rput
  cases hw : okP x n with
  | false => exact Ev.step (f := fun _ => some (l, 2)) (fun k => by simp only [gladstoneref01_Put.j0]; rw [if_pos (by simp)]) (Ev.some (by simp))
  | true =>
    simp only [okP, decide_eq_true_eq] at hw
    obtain ⟨hn0, hn1, -⟩ := hw
    obtain ⟨m, rfl⟩ : ∃ m : Nat, n = m := ⟨n.toNat, by omega⟩
    obtain ⟨y, rfl⟩ : ∃ y : Nat, x = y := ⟨x.toNat, by omega⟩
    have h := rput_l0 l hl y m (by omega) (by omega) m 0 (by omega)
    have e : l ++ nbits 0 y = l := by simp [nbits]
    rw [e] at h
    refine Ev.step (fun k => ?_) h
    simp only [gladstoneref01_Put.j0]
    rw [if_neg (by simp)]
    rfl

/-! ### bytes -/
theorem vb_set (P : List Nat) : ∀ (j d : Nat), j < P.length → vb (P.set j (P.getD j 0 + d)) = vb P + 256 ^ j * d := by
  induction P with
  | nil => intro j d h; simp at h
  | cons b t ih =>
    intro j d h
    cases j with
    | zero => simp [vb]; omega
    | succ j =>
      have := ih j d (by simpa using h)
      simp only [List.set_cons_succ, vb, List.getD_cons_succ, this, Nat.pow_succ]
      rw [Nat.mul_add, ← Nat.mul_assoc, Nat.mul_comm 256 (256 ^ j)]
      omega
theorem p256 (j : Nat) : 256 ^ j = 2 ^ (8 * j) := by rw [Nat.pow_mul]
theorem bv_snoc (l : List Bool) (i : Nat) (h : i < l.length) : bv (l.take (i + 1)) = bv (l.take i) + 2 ^ i * (l.getD i false).toNat := by
  rw [take_snocB l i h, bv_append, List.length_take_of_le (by omega)]
  simp [bv]
/-- A bit more, where a byte begins. -/
theorem pack_new (l : List Bool) (i : Nat) (h : i < l.length) (h8 : i % 8 = 0) : pack (l.take (i + 1)) = pack (l.take i) ++ [(l.getD i false).toNat] := by
  have hb := (l.getD i false).toNat_lt
  refine vb_inj _ _ ?_ (pack_lt _) (fun x hx => ?_) ?_
  · rw [pack_length, List.length_append, pack_length, List.length_take_of_le (by omega), List.length_take_of_le (by omega), List.length_singleton]; omega
  · rcases List.mem_append.1 hx with hx | hx
    · exact pack_lt _ _ hx
    · simp only [List.mem_singleton] at hx; omega
  · rw [vb_append, vb_pack, vb_pack, pack_length, List.length_take_of_le (by omega), bv_snoc l i h, p256]
    have e : 8 * ((i + 7) / 8) = i := by omega
    rw [e]
    simp [vb]
/-- The last byte, so far. -/
theorem pack_last (l : List Bool) (i : Nat) (h : i < l.length) (h8 : i % 8 ≠ 0) : (pack (l.take i)).getD (i / 8) 0 < 2 ^ (i % 8) := by
  have hl : (pack (l.take i)).length = i / 8 + 1 := by rw [pack_length, List.length_take_of_le (by omega)]; omega
  have hd := vb_drop (pack (l.take i)) (pack_lt _) (i / 8)
  have hlt : i / 8 < (pack (l.take i)).length := by omega
  have e : (pack (l.take i)).drop (i / 8) = [(pack (l.take i)).getD (i / 8) 0] := by
    rw [List.drop_eq_getElem_cons hlt, List.drop_of_length_le (by omega)]
    simp [List.getD_eq_getElem?_getD, List.getElem?_eq_getElem hlt]
  rw [e, vb_pack] at hd
  simp only [vb, Nat.mul_zero, Nat.add_zero] at hd
  rw [hd]
  have hv := bv_lt (l.take i)
  rw [List.length_take_of_le (by omega)] at hv
  refine Nat.div_lt_of_lt_mul ?_
  rw [← Nat.pow_add]
  have e2 : 8 * (i / 8) + i % 8 = i := by omega
  rw [e2]
  exact hv
/-- A bit more, within a byte. -/
theorem pack_more (l : List Bool) (i : Nat) (h : i < l.length) (h8 : i % 8 ≠ 0) : pack (l.take (i + 1)) = (pack (l.take i)).set (i / 8) ((pack (l.take i)).getD (i / 8) 0 + 2 ^ (i % 8) * (l.getD i false).toNat) := by
  have hl : (pack (l.take i)).length = i / 8 + 1 := by rw [pack_length, List.length_take_of_le (by omega)]; omega
  have hb := (l.getD i false).toNat_lt
  have hlast := pack_last l i h h8
  refine vb_inj _ _ ?_ (pack_lt _) (fun x hx => ?_) ?_
  · rw [List.length_set, hl, pack_length, List.length_take_of_le (by omega)]; omega
  · rcases List.mem_or_eq_of_mem_set hx with hx | rfl
    · exact pack_lt _ _ hx
    · have hp : 2 ^ (i % 8) ≤ 2 ^ 7 := Nat.pow_le_pow_right (by omega) (by omega)
      have : 2 ^ (i % 8) * (l.getD i false).toNat ≤ 2 ^ (i % 8) * 1 := Nat.mul_le_mul_left _ (by omega)
      omega
  · rw [vb_set _ _ _ (by omega), vb_pack, vb_pack, bv_snoc l i h, p256, ← Nat.mul_assoc, ← Nat.pow_add]
    have e2 : 8 * (i / 8) + i % 8 = i := by omega
    rw [e2]

theorem shl_u8 (n : Nat) (h : n ≤ 7) : shl .u8 1 (n : Int) = ((2 ^ n : Nat) : Int) := by
  have : ∀ n : Nat, n ≤ 7 → shl .u8 1 (n : Int) = ((2 ^ n : Nat) : Int) := by decide +kernel
  exact this n h
def zb (B : List Nat) : List Int := B.map (fun n : Nat => (n : Int))
theorem zb_length (B : List Nat) : (zb B).length = B.length := by simp [zb]
theorem rd_zb (B : List Nat) (i : Nat) : rd (zb B) (i : Int) = ((B.getD i 0 : Nat) : Int) := by
  rw [rd_nat]
  by_cases h : i < B.length
  · simp [zb, List.getD_eq_getElem?_getD, List.getElem?_eq_getElem h]
  · simp [zb, List.getD_eq_getElem?_getD, List.getElem?_eq_none (Nat.le_of_not_lt h)]
theorem zb_set (B : List Nat) (i x : Nat) : (zb B).set i (x : Int) = zb (B.set i x) := by simp [zb, List.map_set]
theorem zb_snoc (B : List Nat) (x : Nat) : zb B ++ [(x : Int)] = zb (B ++ [x]) := by simp [zb]
/-- Bits as a string. -/
def bstr (l : List Bool) : ByteArray := strOfNums (zb (pack l))
theorem nb_bstr (l : List Bool) : nb (bstr l) = pack l := nb_str _ (pack_lt l)
theorem bstr_size (l : List Bool) : (bstr l).size = (l.length + 7) / 8 := by rw [← nb_length, nb_bstr, pack_length]

theorem bytes_l0 (l : List Bool) (hl : l.length ≤ 1099511627776) (d : Nat) : ∀ i : Nat, i + d = l.length → Ev (fun k => gladstoneref01_Bytes.l0 k l (zb (pack (l.take i))) (i : Int)) (bstr l) := by
  induction d with
  | zero =>
    intro i hi
    refine Ev.step (f := fun _ => some (strOfNums (zb (pack (l.take i))))) (fun k => ?_) (Ev.some (by rw [List.take_of_length_le (by omega)]; rfl))
    simp only [gladstoneref01_Bytes.l0]
    rw [if_neg (by omega)]
  | succ d ih =>
    intro i hi
    have h := ih (i + 1) (by omega)
    refine Ev.step (fun k => ?_) h
    have hlen : (pack (l.take i)).length = (i + 7) / 8 := by rw [pack_length, List.length_take_of_le (by omega)]
    have hzl := zb_length (pack (l.take i))
    have em : Int.tmod (i : Int) 8 = ((i % 8 : Nat) : Int) := by rw [Int.tmod_eq_emod_of_nonneg (by omega)]; omega
    have ed : wrap64 (Int.tdiv (i : Int) 8) = ((i / 8 : Nat) : Int) := by rw [Int.tdiv_eq_ediv_of_nonneg (by omega), w64 (by omega) (by omega)]; omega
    have et : (((i / 8 : Nat) : Int)).toNat = i / 8 := Int.toNat_natCast _
    simp only [gladstoneref01_Bytes.l0]
    rw [if_pos (by omega), em, w64 (x := (i : Int) + 1) (by omega) (by omega)]
    by_cases h8 : i % 8 = 0
    · have hp := pack_new l i (by omega) h8
      rw [if_pos (by omega), if_pos (by omega), Option.bind_some, if_pos (by omega), rdOf_nat]
      have ez : zb (pack (l.take i)) ++ [0] = zb (pack (l.take i) ++ [0]) := zb_snoc _ 0
      cases hb : l.getD i false with
      | true =>
        have e0 : (pack (l.take i) ++ [0]).getD (i / 8) 0 = 0 := by
          have e1 : i / 8 = (pack (l.take i)).length := by omega
          rw [e1]; simp [List.getD_eq_getElem?_getD]
        rw [if_pos rfl, ed, if_pos (by omega), ez, if_pos (by rw [zb_length, List.length_append, List.length_singleton]; omega), wu64 (by omega) (by omega), if_pos (by omega), rd_zb, e0, shl_u8 _ (by omega), (bits_u8 0 _ (by omega) (Nat.pow_lt_pow_right (by omega) (by omega))).2, Nat.zero_or, et, zb_set, h8]
        rw [hp, hb]
        have e1 : i / 8 = (pack (l.take i)).length := by omega
        have e2 : (pack (l.take i) ++ [0]).set (i / 8) (2 ^ 0) = pack (l.take i) ++ [true.toNat] := by
          rw [e1, List.set_append_right _ _ (Nat.le_refl _)]
          simp
        rw [e2]
        rfl
      | false =>
        rw [if_neg (by simp), ez, hp, hb]
        rfl
    · have hp := pack_more l i (by omega) h8
      rw [if_neg (by omega), if_pos (by omega), rdOf_nat]
      cases hb : l.getD i false with
      | true =>
        have hlast := pack_last l i (by omega) h8
        have hpw : 2 ^ (i % 8) ≤ 2 ^ 7 := Nat.pow_le_pow_right (by omega) (by omega)
        rw [if_pos rfl, ed, if_pos (by omega), if_pos (by omega), wu64 (by omega) (by omega), if_pos (by omega), rd_zb, shl_u8 _ (by omega), (bits_u8 _ _ (by omega) (by omega)).2, Nat.or_comm, or_join _ _ (i % 8) (by simp) hlast, et, zb_set, hp, hb]
        have e3 : 2 ^ (i % 8) + (pack (l.take i)).getD (i / 8) 0 = (pack (l.take i)).getD (i / 8) 0 + 2 ^ (i % 8) * true.toNat := by simp [Nat.add_comm]
        rw [e3]
        rfl
      | false =>
        rw [if_neg (by simp), hp, hb]
        have e3 : (pack (l.take i)).getD (i / 8) 0 + 2 ^ (i % 8) * false.toNat = (pack (l.take i)).getD (i / 8) 0 := by simp
        have hlt : i / 8 < (pack (l.take i)).length := by omega
        have e4 : (pack (l.take i)).set (i / 8) ((pack (l.take i)).getD (i / 8) 0) = pack (l.take i) := by
          rw [List.getD_eq_getElem?_getD, List.getElem?_eq_getElem hlt]
          simp
        rw [e3, e4]
        rfl
theorem bytes_ev (l : List Bool) (hl : l.length ≤ 1099511627776) : Ev (fun k => gladstoneref01_Bytes.f k l) (bstr l) := by
  have h := bytes_l0 l hl l.length 0 (by omega)
  have e : zb (pack (l.take 0)) = [] := by simp [pack, pk, zb]
  rw [e] at h
  exact h
end Go.Proofs.Ytnmggblhbodfgaa.Com
