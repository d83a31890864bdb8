/- BitwParts, walked by hand. -/
import Derived.Test.YtbbmnaiofdjacaaHParts1
set_option linter.unusedVariables false
set_option linter.unusedSimpArgs false
set_option linter.unusedSectionVars false
namespace Go.Proofs.Ytbbmnaiofdjacaa.P
open Go.RowKit Go.Proofs.YtbbmnaiofdjacaaW.PrintWords Go.Proofs.YtbbmnaiofdjacaaW.PrintLast Go.Proofs.YtbbmnaiofdjacaaW.PrintMore Go.Proofs.Ytbbmnaiofdjacaa.Hw Go.Proofs.Ytbbmnaiofdjacaa.Com Go.Proofs.Ytbbmnaiofdjacaa.Hd
attribute [local go_sem] max2_int min2_int max_two min_two max_three min_three max_four min_four
theorem mask_eq (X L : Nat) (hX : X < 2 ^ 64) (hL : L ≤ 56) : Go.bits .and .u64 (X : Int) (IntKind.u64.wrap (IntKind.u64.wrap (2 ^ min (IntKind.u64.wrap (L : Int)).toNat 64) - 1)) = ((X % 2 ^ L : Nat) : Int) := by
  have hp : 2 ^ L ≤ 2 ^ 56 := Nat.pow_le_pow_right (by omega) hL
  have e1 : IntKind.u64.wrap (L : Int) = L := wu64 (by omega) (by omega)
  have e2 : min L 64 = L := by omega
  have e3 : ((2 : Int) ^ L) = ((2 ^ L : Nat) : Int) := by simp
  have hp1 := Nat.two_pow_pos L
  rw [e1, Int.toNat_natCast, e2, e3, wu64 (x := ((2 ^ L : Nat) : Int)) (by omega) (by omega), wu64 (by omega) (by omega)]
  have e4 : (((2 ^ L : Nat) : Int) - 1) = ((2 ^ L - 1 : Nat) : Int) := by omega
  rw [e4]
  exact low_nat X L hX (by omega)
theorem high_eq (X L : Nat) (hL : L ≤ 56) : (X : Int) / 2 ^ min (IntKind.u64.wrap (L : Int)).toNat 64 = ((X / 2 ^ L : Nat) : Int) := by
  have hLI : IntKind.u64.wrap (L : Int) = L := wu64 (by omega) (by omega)
  have hLm : min L 64 = L := by omega
  rw [hLI, Int.toNat_natCast, hLm, Int.natCast_ediv, Int.natCast_pow]; rfl
theorem sub_eq (A L : Nat) (hA : A ≤ 56) (hL : L ≤ A) : wrap64 ((A : Int) - L) = ((A - L : Nat) : Int) := by rw [w64 (by omega) (by omega)]; omega
theorem lt_big (X : Nat) (h : X < 2 ^ 56) : (X : Int) < 18446744073709551616 := by omega
set_option maxHeartbeats 8000000 in
set_option maxRecDepth 100000 in
theorem parts_walk (y A L X : Nat) (n k : Int) (w : World) (hA2 : A ≤ 56) (hL2 : L ≤ A) (hX2 : X < 2 ^ A)
    (Z : (wrap64 (wrap64 (n.tmod 57) + 1) = 0) = False)
    (EE : Aside0 (wrap64 (n.tmod 57) = (A : Int) ∧ wrap64 ((A : Int) + 1) = (A : Int) + 1 ∧ wrap64 k = k ∧ k.tmod ((A : Int) + 1) = L ∧ Go.bits .and .u64 (y : Int) (IntKind.u64.wrap (IntKind.u64.wrap (2 ^ min (IntKind.u64.wrap (A : Int)).toNat 64) - 1)) = (X : Int))) :
    Calls Try.prog 4 #[.int .u64 y, .int .u8 n, .int .u8 k] w fun e w' => e = .returned (.bool true) ∧ Below w.heap.size w w' := by
  have hp : 2 ^ A ≤ 2 ^ 56 := Nat.pow_le_pow_right (by omega) hA2
  have hL56 : L ≤ 56 := Nat.le_trans hL2 hA2
  have hX56 : X < 2 ^ 56 := Nat.lt_of_lt_of_le hX2 hp
  have E6 := Aside0.mk (mask_eq X L (Nat.lt_of_lt_of_le hX56 (by decide)) hL56)
  have E7 := Aside0.mk (high_eq X L hL56)
  have E8 := Aside0.mk (sub_eq A L hA2 hL2)
  have hlo : X % 2 ^ L < 2 ^ L := Nat.mod_lt _ (Nat.two_pow_pos L)
  have hhi : X / 2 ^ L < 2 ^ (A - L) := Nat.div_lt_of_lt_mul (by rw [← Nat.pow_add, Nat.add_sub_cancel' hL2]; exact hX2)
  have ebits : ([] ++ nbits L (X % 2 ^ L)) ++ nbits (A - L) (X / 2 ^ L) = [] ++ nbits A X := by
    rw [List.nil_append, List.nil_append, nbits_mod, ← nbits_add, Nat.add_sub_cancel' hL2]
  have r3 := rput_ok ([] ++ nbits L (X % 2 ^ L)) (X / 2 ^ L) (A - L) (Nat.le_trans (Nat.sub_le _ _) hA2) hhi
  rw [ebits] at r3
  have R1 := Aside0.mk (rput_ok [] X A hA2 hX2)
  have R2 := Aside0.mk (rput_ok [] (X % 2 ^ L) L hL56 hlo)
  have R3 := Aside0.mk r3
  have L0 : Aside0 (([] : List Bool).length ≤ 1099511627776) := ⟨by decide⟩
  have L1 : Aside0 (([] ++ nbits A X : List Bool).length ≤ 1099511627776) := ⟨by rw [List.nil_append, nbits_length]; exact Nat.le_trans hA2 (by decide)⟩
  have L2 : Aside0 (([] ++ nbits L (X % 2 ^ L) : List Bool).length ≤ 1099511627776) := ⟨by rw [List.nil_append, nbits_length]; exact Nat.le_trans hL56 (by decide)⟩
  have X1 := Aside0.mk (lt_big X hX56)
  have X3 := Aside0.mk (lt_big (X % 2 ^ L) (Nat.lt_of_le_of_lt (Nat.mod_le _ _) hX56))
  have X5 := Aside0.mk (lt_big (X / 2 ^ L) (Nat.lt_of_le_of_lt (Nat.div_le_self _ _) hX56))
  clear r3 ebits hX2 hp hlo hhi hA2 hL2 hL56 hX56
  go_enter Try.func4, Try.ntmps4
  go_wp2_with (first
    | (go_at_call 7; refine (New_ok w).mono ?_; rintro e w1 ⟨g, rfl, hW, hg, hB⟩; rw [EE.out.1, EE.out.2.1, EE.out.2.2.1, EE.out.2.2.2.1, EE.out.2.2.2.2]; have W1 := Aside0.mk (show Wb w1 w.heap.size g (.slice none 0 0) [] from ⟨[], 0, 0, by simp, by omega, by simp, rfl, hW⟩); have G1 := Aside0.mk hg; have B1 := Aside0.mk hB; clear hW hg hB)
    | (go_at_call 7; refine (New_ok w1).mono ?_; rintro e w2 ⟨g', rfl, hW, hg, hB⟩; have NE := Aside0.mk (show g ≠ g' from Nat.ne_of_lt (Nat.lt_of_lt_of_le W1.out.lt hg)); have V2 := Aside0.mk ((show Wb w2 w1.heap.size g' (.slice none 0 0) [] from ⟨[], 0, 0, by simp, by omega, by simp, rfl, hW⟩).lower B1.out.size); have G2 := Aside0.mk (Nat.le_trans B1.out.size hg); have W2 := Aside0.mk (W1.out.below hB); have B2 := Aside0.mk (below_step B1.out hB); clear hW hg hB W1 B1)
    | (go_at_call 11; with_reducible refine (Put_c g _ [] X A w.heap.size w2 _ 0 R1.out W2.out G1.out (Int.natCast_nonneg _) X1.out L0.out).mono ?_; rintro e w3 ⟨va, rfl, hW, hF, hN⟩; have P3 := Aside0.mk (V2.out.pair W2.out hF NE.out.symm (by simp [Value.ownBlock]) hN); have W3 := Aside0.mk hW; have B3 := Aside0.mk (Fr.join B2.out hF G1.out W2.out.own); clear hW hF hN V2 W2 B2)
    | (go_at_call 11; rw [E6.out]; with_reducible refine (Put_c g' _ [] ((X % 2 ^ L : Nat) : Int) L w.heap.size w3 _ 0 R2.out P3.out.1 G2.out (Int.natCast_nonneg _) X3.out L0.out).mono ?_; rintro e w4 ⟨vb, rfl, hW, hF, hN⟩; have P4 := Aside0.mk (W3.out.pair P3.out.1 hF NE.out (by simp [Value.ownBlock]) hN); have W4 := Aside0.mk hW; have B4 := Aside0.mk (Fr.join B3.out hF G2.out P3.out.1.own); clear hW hF hN P3 W3 B3)
    | (go_at_call 11; rw [E7.out, E8.out]; with_reducible refine (Put_c g' _ ([] ++ nbits L (X % 2 ^ L)) ((X / 2 ^ L : Nat) : Int) ((A - L : Nat) : Int) w.heap.size w4 _ 0 R3.out W4.out G2.out (Int.natCast_nonneg _) X5.out L2.out).mono ?_; rintro e w5 ⟨vc, rfl, hW, hF, hN⟩; have P5 := Aside0.mk (P4.out.1.pair W4.out hF NE.out P4.out.2 hN); have W5 := Aside0.mk hW; have B5 := Aside0.mk (Fr.join B4.out hF G2.out W4.out.own); clear hW hF hN P4 W4 B4)
    | (go_at_call 13; with_reducible refine (Bytes_b g _ ([] ++ nbits A X) w.heap.size w5 P5.out.1 L1.out).mono ?_; rintro e w6 ⟨rfl, hB⟩; have P6 := Aside0.mk (P5.out.1.below hB); have W6 := Aside0.mk (W5.out.below hB); have B6 := Aside0.mk (below_step B5.out hB); clear hB)
    | (go_at_call 13; with_reducible refine (Bytes_b g' _ ([] ++ nbits A X) w.heap.size w6 W6.out L1.out).mono ?_; rintro e w7 ⟨rfl, hB⟩; have P7 := Aside0.mk (P6.out.below hB); have W7 := Aside0.mk (W6.out.below hB); have B7 := Aside0.mk (below_step B6.out hB); clear hB)
    | (go_at_call 12; with_reducible refine (Len_b g _ ([] ++ nbits A X) w.heap.size w7 P7.out L1.out).mono ?_; rintro e w8 ⟨rfl, hd⟩; have W8 := Aside0.mk (W7.out.below (drawn_below hd)); have B8 := Aside0.mk (below_step B7.out (drawn_below hd)); clear hd)
    | (go_at_call 12; with_reducible refine (Len_b g' _ ([] ++ nbits A X) w.heap.size _ W8.out L1.out).mono ?_; rintro e w9 ⟨rfl, hd⟩; have B9 := Aside0.mk (below_step B8.out (drawn_below hd)); clear hd)
    | (go_at_call 6; refine (gladstonelaw01_awake.calls _).mono ?_; rintro e w10 ⟨rfl, hB⟩; have B10 := Aside0.mk (below_step B9.out hB)))
  go_ret
  exact ⟨rfl, B10.out⟩
theorem gladstonelaw01_BitwParts.calls (x n k : Int) (r : Bool) (w : World) (hr : (Lit.int .u64 x).wf = true ∧ (Lit.int .u8 n).wf = true ∧ (Lit.int .u8 k).wf = true ∧ true = r) :
    Calls Try.prog 4 #[.int .u64 x, .int .u8 n, .int .u8 k] w fun e w' => e = .returned (.bool r) ∧ Below w.heap.size w w' := by
  obtain ⟨hx, hn, hk, hr⟩ := hr
  subst hr
  obtain ⟨A, hA, hA2⟩ : ∃ A : Nat, n.tmod 57 = A ∧ A ≤ 56 := by
    refine ⟨(n.tmod 57).toNat, ?_, ?_⟩ <;> (simp [Lit.wf, IntKind.min, IntKind.max, IntKind.bits, IntKind.signed] at hn; rw [Int.tmod_eq_emod_of_nonneg hn.1]; omega)
  obtain ⟨L, hL, hL2⟩ : ∃ L : Nat, k.tmod ((A : Int) + 1) = L ∧ L ≤ A := by
    have h0 : 0 ≤ k.tmod ((A : Int) + 1) := Int.tmod_nonneg _ (by simp [Lit.wf, IntKind.min, IntKind.max, IntKind.bits, IntKind.signed] at hk; omega)
    have h1 := Int.tmod_lt_of_pos k (b := (A : Int) + 1) (by omega)
    exact ⟨(k.tmod ((A : Int) + 1)).toNat, by omega, by omega⟩
  obtain ⟨y, rfl, hy⟩ : ∃ y : Nat, x = y ∧ y < 2 ^ 64 := by
    simp [Lit.wf, IntKind.min, IntKind.max, IntKind.bits, IntKind.signed] at hx
    exact ⟨x.toNat, by omega, by omega⟩
  have eA : wrap64 (n.tmod 57) = (A : Int) := by rw [hA]; exact w64 (by omega) (by omega)
  have eA1 : wrap64 ((A : Int) + 1) = (A : Int) + 1 := w64 (by omega) (by omega)
  have eK : wrap64 k = k := by simp [Lit.wf, IntKind.min, IntKind.max, IntKind.bits, IntKind.signed] at hk; exact w64 (by omega) (by omega)
  have Z : ¬ wrap64 (wrap64 (n.tmod 57) + 1) = 0 := by rw [eA, eA1]; omega
  exact parts_walk y A L (y % 2 ^ A) n k w hA2 hL2 (Nat.mod_lt _ (Nat.two_pow_pos A)) (eq_false Z) ⟨eA, eA1, eK, hL, mask_eq y A hy hA2⟩
end Go.Proofs.Ytbbmnaiofdjacaa.P
