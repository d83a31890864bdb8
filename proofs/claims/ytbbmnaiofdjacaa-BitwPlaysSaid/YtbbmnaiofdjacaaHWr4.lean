/- bitw.Writer by its bits. -/
import Derived.Test.YtbbmnaiofdjacaaHWr3
import Derived.Test.YtbbmnaiofdjacaaBtPut
set_option linter.unusedVariables false
set_option linter.unusedSimpArgs false
set_option linter.unusedSectionVars false
namespace Go.Proofs.Ytbbmnaiofdjacaa.Hd
open Go.RowKit Go.Proofs.YtbbmnaiofdjacaaW.PrintWords Go.Proofs.YtbbmnaiofdjacaaW.PrintLast Go.Proofs.YtbbmnaiofdjacaaW.PrintMore Go.Proofs.Ytbbmnaiofdjacaa.Hw Go.Proofs.Ytbbmnaiofdjacaa.Com Go.Proofs.Ytbbmnaiofdjacaa.P

/-- A writer of these bits. -/
def Wb (W : World) (base g : Nat) (v : Value) (l : List Bool) : Prop :=
  ∃ (B : List Nat) (wo n : Nat), (∀ x ∈ B, x < 256) ∧ n < 8 ∧ wo < 2 ^ n ∧ l = bb B ++ nbits n wo ∧ Wr W base g v (zi B) wo n
theorem Wr.below {W W1 : World} {base g : Nat} {v : Value} {xs : List Int} {wo n : Int} (h : Wr W base g v xs wo n) (hb : Below W.heap.size W W1) : Wr W1 base g v xs wo n := ⟨blk_below h.1 hb, Kd.R_below h.2 hb⟩
theorem Wb.below {W W1 : World} {base g : Nat} {v : Value} {l : List Bool} (h : Wb W base g v l) (hb : Below W.heap.size W W1) : Wb W1 base g v l := by
  obtain ⟨B, wo, n, h1, h2, h3, h4, h5⟩ := h
  exact ⟨B, wo, n, h1, h2, h3, h4, h5.below hb⟩
theorem Fr.of_below {w w' : World} {g : Nat} {v : Value} (h : Below w.heap.size w w') : Fr w w' g v := ⟨h.os, h.tape, h.output, h.size, fun i hi _ _ => h.block i hi⟩
theorem tb_lt (c T : Nat) : ∀ x ∈ tb c T, x < 256 := by
  intro x hx
  obtain ⟨i, _, rfl⟩ := List.mem_map.1 hx
  exact Nat.mod_lt _ (by omega)
theorem bb_tb (c T : Nat) : bb (tb c T) = nbits (8 * c) T := by
  induction c with
  | zero => rfl
  | succ c ih =>
    have e1 : tb (c + 1) T = tb c T ++ [T / 2 ^ (8 * c) % 256] := by simp [tb, List.range_succ]
    have e2 : bb [T / 2 ^ (8 * c) % 256] = nbits 8 (T / 2 ^ (8 * c)) := by
      rw [bb_cons, show (256 : Nat) = 2 ^ 8 from rfl, nbits_mod]
      exact List.append_nil _
    rw [e1, bb_append, ih, e2, Nat.mul_add, nbits_add]
theorem bb_len_le {B : List Nat} {n wo : Nat} {l : List Bool} (h : l = bb B ++ nbits n wo) : l.length = 8 * B.length + n := by
  rw [h, List.length_append, bb_length, nbits_length]
/-- The bits behind a put. -/
theorem put_bits {B : List Nat} {n wo x k : Nat} {l : List Bool} (hn : n < 8) (hwo : wo < 2 ^ n) (h : l = bb B ++ nbits n wo) :
    l ++ nbits k x = bb (B ++ tb ((n + k) / 8) (wo + x * 2 ^ n)) ++ nbits ((n + k) % 8) ((wo + x * 2 ^ n) / 2 ^ (8 * ((n + k) / 8))) := by
  have hp := Nat.two_pow_pos n
  have e1 : (wo + x * 2 ^ n) % 2 ^ n = wo := by rw [Nat.add_mul_mod_self_right, Nat.mod_eq_of_lt hwo]
  have e2 : (wo + x * 2 ^ n) / 2 ^ n = x := by rw [Nat.add_mul_div_right _ _ hp, Nat.div_eq_of_lt hwo, Nat.zero_add]
  have e3 : nbits (n + k) (wo + x * 2 ^ n) = nbits n wo ++ nbits k x := by
    rw [nbits_add, e2, ← nbits_mod n (wo + x * 2 ^ n), e1]
  have e4 : n + k = 8 * ((n + k) / 8) + (n + k) % 8 := by omega
  have e5 : nbits (n + k) (wo + x * 2 ^ n) = nbits (8 * ((n + k) / 8)) (wo + x * 2 ^ n) ++ nbits ((n + k) % 8) ((wo + x * 2 ^ n) / 2 ^ (8 * ((n + k) / 8))) := by
    rw [← nbits_add, ← e4]
  rw [h, bb_append, bb_tb, List.append_assoc, List.append_assoc, ← e3, ← e5]

theorem Put_b (g : Nat) (v : Value) (l : List Bool) (x k : Int) (base : Nat) (w : World) (hI : Wb w base g v l) (hb : base ≤ g) (h0 : 0 ≤ x) (hx : x < 18446744073709551616) (hl : l.length ≤ 1099511627776) :
    Calls Try.prog 11 #[.pointer (some ⟨g, 0, none⟩), .int .u64 x, .int .i64 k] w fun e w' => ∃ v' : Value, e = .returned (.int .i64 (rput l x k).2) ∧ Wb w' base g v' (rput l x k).1 ∧ Fr w w' g v ∧ Nw w v v' := by
  unfold rput
  cases hw : okP x k with
  | false =>
    have hbad : ¬ (0 ≤ k ∧ k ≤ 56 ∧ x / 2 ^ k.toNat = 0) := of_decide_eq_false hw
    refine (Put_bad g x k w hbad).mono ?_
    rintro e w' ⟨rfl, hB⟩
    exact ⟨v, rfl, hI.below hB, Fr.of_below hB, .inl rfl⟩
  | true =>
    obtain ⟨hk0, hk1, hk2⟩ : 0 ≤ k ∧ k ≤ 56 ∧ x / 2 ^ k.toNat = 0 := of_decide_eq_true hw
    obtain ⟨m, rfl⟩ : ∃ m : Nat, k = m := ⟨k.toNat, by omega⟩
    obtain ⟨y, rfl⟩ : ∃ y : Nat, x = y := ⟨x.toNat, by omega⟩
    obtain ⟨B, wo, n, h1, h2, h3, h4, h5⟩ := hI
    rw [Int.toNat_natCast] at hk2
    have hy : y < 2 ^ m := by
      have e : (((y / 2 ^ m : Nat)) : Int) = 0 := by simpa using hk2
      have e2 : y / 2 ^ m = 0 := by omega
      rcases (Nat.div_eq_zero_iff).1 e2 with h | h
      · have := Nat.two_pow_pos m; omega
      · exact h
    have hlen := bb_len_le h4
    refine (Put_ok g v (zi B) wo n y m base w h5 hb h2 (by omega) hy h3 (by simp [zi]; omega)).mono ?_
    rintro e w' ⟨v', rfl, hW, hF, hN⟩
    refine ⟨v', rfl, ⟨B ++ tb ((n + m) / 8) (wo + y * 2 ^ n), (wo + y * 2 ^ n) / 2 ^ (8 * ((n + m) / 8)), (n + m) % 8, ?_, by omega, ?_, ?_, ?_⟩, hF, hN⟩
    · intro x hx
      rcases List.mem_append.1 hx with hx | hx
      · exact h1 x hx
      · exact tb_lt _ _ x hx
    · refine Nat.div_lt_of_lt_mul ?_
      rw [← Nat.pow_add]
      have e4 : 8 * ((n + m) / 8) + (n + m) % 8 = n + m := by omega
      rw [e4, Nat.pow_add]
      have hp := Nat.two_pow_pos n
      have : (y + 1) * 2 ^ n ≤ 2 ^ m * 2 ^ n := Nat.mul_le_mul_right _ hy
      rw [Nat.add_mul, Nat.one_mul] at this
      rw [Nat.mul_comm (2 ^ n)]
      omega
    · simp only [if_true, Int.toNat_natCast]
      exact put_bits h2 h3 h4
    · have e : zi (B ++ tb ((n + m) / 8) (wo + y * 2 ^ n)) = zi B ++ zi (tb ((n + m) / 8) (wo + y * 2 ^ n)) := by simp [zi]
      rw [e]
      exact hW

theorem Len_b (g : Nat) (v : Value) (l : List Bool) (base : Nat) (w : World) (hI : Wb w base g v l) (hl : l.length ≤ 1099511627776) :
    Calls Try.prog 12 #[.pointer (some ⟨g, 0, none⟩)] w fun e w' => e = .returned (.int .i64 (l.length : Int)) ∧ Drawn0 w w' := by
  obtain ⟨B, wo, n, h1, h2, h3, h4, h5⟩ := hI
  have hlen := bb_len_le h4
  refine (Len_ok g v (zi B) wo n base w h5).mono ?_
  rintro e w' ⟨rfl, hd⟩
  refine ⟨?_, hd⟩
  have e : (zi B).length = B.length := by simp [zi]
  rw [e, w64 (x := (B.length : Int) * 8) (by omega) (by omega), w64 (by omega) (by omega), hlen]
  congr 2
  omega

theorem str_app (xs ys : List Int) : strOfNums xs ++ strOfNums ys = strOfNums (xs ++ ys) := by
  refine nb_inj ?_
  rw [nb_append]
  simp [nb, strOfNums]
theorem pack_bits {B : List Nat} {n wo : Nat} {l : List Bool} (hB : ∀ x ∈ B, x < 256) (hn : n < 8) (hwo : wo < 2 ^ n) (h : l = bb B ++ nbits n wo) : pack l = if n = 0 then B else B ++ [wo] := by
  have hlen := bb_len_le h
  have hw256 : wo < 256 := Nat.lt_of_lt_of_le hwo (Nat.pow_le_pow_right (n := 2) (by omega) (show n ≤ 8 by omega))
  have hv : bv l = vb B + 2 ^ (8 * B.length) * wo := by
    rw [h, bv_append, bv_bb B hB, bb_length, bv_nbits, Nat.mod_eq_of_lt hwo]
  by_cases h0 : n = 0
  · subst h0
    rw [if_pos rfl]
    have hw0 : wo = 0 := by simpa using hwo
    refine vb_inj _ _ (by rw [pack_length]; omega) (pack_lt _) hB ?_
    rw [vb_pack, hv, hw0, Nat.mul_zero, Nat.add_zero]
  · rw [if_neg h0]
    refine vb_inj _ _ (by rw [pack_length, List.length_append, List.length_singleton]; omega) (pack_lt _) (fun x hx => ?_) ?_
    · rcases List.mem_append.1 hx with hx | hx
      · exact hB x hx
      · rw [List.mem_singleton.1 hx]; exact hw256
    · rw [vb_pack, hv, vb_append, p256]
      simp [vb]
theorem Bytes_b (g : Nat) (v : Value) (l : List Bool) (base : Nat) (w : World) (hI : Wb w base g v l) (hl : l.length ≤ 1099511627776) :
    Calls Try.prog 13 #[.pointer (some ⟨g, 0, none⟩)] w fun e w' => e = .returned (.string (bstr l)) ∧ Below w.heap.size w w' := by
  obtain ⟨B, wo, n, h1, h2, h3, h4, h5⟩ := hI
  have hlen := bb_len_le h4
  have hw256 : wo < 256 := Nat.lt_of_lt_of_le h3 (Nat.pow_le_pow_right (n := 2) (by omega) (show n ≤ 8 by omega))
  refine (Bytes_ok g v (zi B) wo n base w h5 (by simp [zi]; omega)).mono ?_
  rintro e w' ⟨rfl, hb⟩
  refine ⟨?_, hb⟩
  congr 2
  unfold bstr
  rw [pack_bits h1 h2 h3 h4]
  by_cases h0 : n = 0
  · rw [if_pos (by omega), if_pos h0]; rfl
  · have e : IntKind.u8.wrap (wo : Int) = (wo : Int) := by rw [IntKind.wrap_u8]; omega
    rw [if_neg (by omega), if_neg h0, e, str_app]
    simp [zb, zi]
/-- Up to eights. -/
def upW (p : Nat) : Nat := (8 - p % 8) % 8
theorem Align_b (g : Nat) (v : Value) (l : List Bool) (base : Nat) (w : World) (hI : Wb w base g v l) (hb : base ≤ g) (hl : l.length ≤ 1099511627776) :
    Calls Try.prog 9 #[.pointer (some ⟨g, 0, none⟩)] w fun e w' => ∃ v' : Value, e = .returned (.int .i64 ((upW l.length : Nat) : Int)) ∧ Wb w' base g v' (l ++ nbits (upW l.length) 0) ∧ Fr w w' g v ∧ Nw w v v' := by
  have hI0 := hI
  obtain ⟨B, wo, n, h1, h2, h3, h4, h5⟩ := hI
  have hlen := bb_len_le h4
  by_cases h0 : n = 0
  · subst h0
    have e : upW l.length = 0 := by unfold upW; omega
    rw [e]
    refine (Align_zero g v (zi B) wo base w h5).mono ?_
    rintro e w' ⟨rfl, m, rfl⟩
    refine ⟨v, rfl, ?_, ⟨rfl, rfl, rfl, Nat.le_refl _, fun _ _ _ _ => rfl⟩, .inl rfl⟩
    rw [show l ++ nbits 0 0 = l from List.append_nil _]
    exact hI0.below (pw_below_drewN (Below.refl _ _) _)
  · have e : upW l.length = 8 - n := by unfold upW; omega
    rw [e]
    refine (Align_more g v (zi B) wo n base w h5 hb (by omega) h2 h3 (by simp [zi]; omega)).mono ?_
    rintro e w' ⟨v', rfl, hW, hF, hN⟩
    refine ⟨v', rfl, ⟨B ++ tb ((n + (8 - n)) / 8) (wo + 0 * 2 ^ n), (wo + 0 * 2 ^ n) / 2 ^ (8 * ((n + (8 - n)) / 8)), (n + (8 - n)) % 8, ?_, by omega, ?_, put_bits h2 h3 h4, ?_⟩, hF, hN⟩
    · intro x hx
      rcases List.mem_append.1 hx with hx | hx
      · exact h1 x hx
      · exact tb_lt _ _ x hx
    · have hw256 : wo < 256 := Nat.lt_of_lt_of_le h3 (Nat.pow_le_pow_right (n := 2) (by omega) (show n ≤ 8 by omega))
      have e8 : n + (8 - n) = 8 := by omega
      rw [e8]
      simp
      omega
    · have e : zi (B ++ tb ((n + (8 - n)) / 8) (wo + 0 * 2 ^ n)) = zi B ++ zi (tb ((n + (8 - n)) / 8) (wo + 0 * 2 ^ n)) := by simp [zi]
      rw [e]
      exact hW
end Go.Proofs.Ytbbmnaiofdjacaa.Hd
