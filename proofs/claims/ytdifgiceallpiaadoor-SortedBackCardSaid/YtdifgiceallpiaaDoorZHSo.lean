/- sorted.Put, walked by hand. -/
import Derived.Test.YtdifgiceallpiaaDoorZPureSo
import Derived.Test.YtdifgiceallpiaaDoorZHBb
import Derived.Test.YtdifgiceallpiaaDoorZPx2
import Derived.Test.YtdifgiceallpiaaDoorZPx3
import Derived.Test.YtdifgiceallpiaaDoorZPx5
import Derived.Test.YtdifgiceallpiaaDoorZPx4
import Derived.StillTailTactics
set_option linter.unusedVariables false
set_option linter.unusedSimpArgs false
set_option linter.unusedSectionVars false
namespace Go.Proofs.YtdifgiceallpiaaDoor.Hd
open Go Go.RowKit Go.Proofs.YtdifgiceallpiaaDoorW.PrintWords Go.Proofs.YtdifgiceallpiaaDoorW.PrintLast Go.Proofs.YtdifgiceallpiaaDoorW.PrintMore Go.Proofs.YtdifgiceallpiaaDoor.Hw Go.Proofs.YtdifgiceallpiaaDoor.Com Go.Proofs.YtdifgiceallpiaaDoor.P Go.Proofs.YtdifgiceallpiaaDoor.Pure
attribute [local go_sem] max2_int min2_int max_two min_two max_three min_three max_four min_four
theorem so_get {α : Type} {g : Nat → Option α} {r : α} (h : Ev g r) : ∃ k, g k = some r := by
  obtain ⟨k, h⟩ := h
  exact ⟨k, h k (Nat.le_refl _)⟩
theorem turn_at (s : ByteArray) (w : World) (hs : s.size ≤ 65536) : Calls Tryd.prog 9 #[.string s] w fun e w' => e = .returned (.tuple #[.string (tS s), .int .i64 (tA s : Int)]) ∧ Below w.heap.size w w' := by
  obtain ⟨k, hk⟩ := so_get (turn_ev (s := s) (by omega))
  exact bwt_Turn.calls k s _ _ w hk
theorem move_at (s : ByteArray) (w : World) (hs : s.size ≤ 65536) : Calls Tryd.prog 11 #[.string (tS s)] w fun e w' => ∃ A c, e = .returned (.slice A s.size c) ∧ s.size ≤ c ∧ Kd.C (Kd.int .i64) w' A s.size (mvT s) ∧ Below w.heap.size w w' := by
  have hf : mtf_Move.f (tS s) = some (mvT s) := by unfold mtf_Move.f; rw [if_pos (by rw [tS_size]; omega)]; rfl
  refine (mtf_Move.calls (tS s) _ w hf).mono ?_
  rintro e w' ⟨v, rfl, hR, hB⟩
  obtain ⟨A, c, rfl, hl, hC⟩ := Kd.R_reads hR
  rw [mv_length] at hl hC ⊢
  exact ⟨A, c, rfl, hl, hC, hB⟩
theorem pack_at (s : ByteArray) (A : Option Addr) (c : Nat) (w : World) (hs : s.size ≤ 65536) (hC : Kd.C (Kd.int .i64) w A s.size (mvT s)) (hc : s.size ≤ c) : Calls Tryd.prog 10 #[.slice A s.size c] w fun e w' => ∃ A c, e = .returned (.tuple #[.slice A (sgT s).length c, .int .i64 0]) ∧ (sgT s).length ≤ c ∧ Kd.C (Kd.int .i64) w' A (sgT s).length (sgT s) ∧ Below w.heap.size w w' := by
  obtain ⟨k, hk⟩ := so_get (pack_ev (mvT s) (by rw [mv_length]; omega))
  rw [sgT_eq] at hk
  rw [← mv_length s] at hC hc ⊢
  refine (zeros_Pack.calls k A c (mvT s) _ _ w hC hc hk).mono ?_
  rintro e w' ⟨v, rfl, hR, hB⟩
  obtain ⟨A, c, rfl, hl, hC⟩ := Kd.R_reads hR
  exact ⟨A, c, rfl, hl, hC, hB⟩
theorem vput_at (n : Nat) (w : World) (hn : n ≤ 65536) : Calls Tryd.prog 12 #[.int .i64 (n : Int)] w fun e w' => e = .returned (.tuple #[.string (bs n), .int .i64 0]) ∧ Below w.heap.size w w' := by
  obtain ⟨k, hk⟩ := so_get (put_ev (n : Int))
  have e : put (n : Int) = (bs n, 0) := by
    unfold put inR
    rw [decide_eq_true (by omega), if_pos rfl, Int.toNat_natCast]
  rw [e] at hk
  exact varint_Put.calls k _ _ _ w hk
theorem benc_at (s : ByteArray) (A : Option Addr) (c : Nat) (w : World) (hs : s.size ≤ 65536) (hC : Kd.C (Kd.int .i64) w A (sgT s).length (sgT s)) (hc : (sgT s).length ≤ c) : Calls Tryd.prog 13 #[.slice A (sgT s).length c, .int .i64 9] w fun e w' => e = .returned (.tuple #[.string (enB s), .int .i64 0]) ∧ Below w.heap.size w w' := by
  have hf : bittree_Encode.f (sgT s) 9 = some (enB s, 0) := by
    unfold bittree_Encode.f
    rw [if_pos (by have := sgT_length s; omega), enB_eq hs]
  exact bittree_Encode.calls A c (sgT s) 9 _ _ w hC hc hf
theorem putT_eq (s : ByteArray) : ((((⟨#[]⟩ : ByteArray) ++ bs s.size) ++ bs (tA s)) ++ bs (sgT s).length) ++ enB s = putT s := by
  have e : (⟨#[]⟩ : ByteArray) ++ bs s.size = bs s.size := ByteArray.empty_append
  rw [e]
  rfl
theorem ix0 (x y z : Value) (W : World) : (Instr.index 33 (.agg #[x, y, z]) (.int .i64 0)).run Tryd.prog W = .ok x W := by kernel_rfl
theorem ix1 (x y z : Value) (W : World) : (Instr.index 33 (.agg #[x, y, z]) (.int .i64 1)).run Tryd.prog W = .ok y W := by kernel_rfl
theorem ix2 (x y z : Value) (W : World) : (Instr.index 33 (.agg #[x, y, z]) (.int .i64 2)).run Tryd.prog W = .ok z W := by kernel_rfl
attribute [local go_sem] ix0 ix1 ix2
set_option maxHeartbeats 8000000 in
set_option maxRecDepth 100000 in
theorem put_ok (s : ByteArray) (w : World) (hs : s.size ≤ 65536) : Calls Tryd.prog 6 #[.string s] w fun e w' => e = .returned (.tuple #[.string (putT s), .int .i64 0]) ∧ Below w.heap.size w w' := by
  have t1 : decide (65536 < (s.size : Int)) = false := decide_eq_false (by omega)
  have t1b : decide (65536 < s.size) = false := decide_eq_false (by omega)
  have HS := Aside0.mk hs
  have HA := Aside0.mk (show tA s ≤ 65536 by have := tA_le s; omega)
  have HL := Aside0.mk (show (sgT s).length ≤ 65536 by have := sgT_length s; omega)
  have HE := Aside0.mk (putT_eq s)
  have z0 : (⟨#[]⟩ : ByteArray).size = 0 := rfl
  have b1 := bs_small hs
  have b2 := bs_small HA.out
  have b3 := bs_small HL.out
  have b4 := enB_size hs
  have s0 : (9223372036854775807 < (⟨#[]⟩ : ByteArray).size + (bs s.size).size) = False := eq_false (by omega)
  have s1 : (9223372036854775807 < (bs s.size).size) = False := eq_false (by omega)
  have s2 : (9223372036854775807 < (⟨#[]⟩ : ByteArray).size + (bs s.size).size + (bs (tA s)).size) = False := eq_false (by omega)
  have s3 : (9223372036854775807 < (bs s.size).size + (bs (tA s)).size) = False := eq_false (by omega)
  have s4 : (9223372036854775807 < (⟨#[]⟩ : ByteArray).size + (bs s.size).size + (bs (tA s)).size + (bs (sgT s).length).size) = False := eq_false (by omega)
  have s5 : (9223372036854775807 < (bs s.size).size + (bs (tA s)).size + (bs (sgT s).length).size) = False := eq_false (by omega)
  have s6 : (9223372036854775807 < (⟨#[]⟩ : ByteArray).size + (bs s.size).size + (bs (tA s)).size + (bs (sgT s).length).size + (enB s).size) = False := eq_false (by omega)
  have s7 : (9223372036854775807 < (bs s.size).size + (bs (tA s)).size + (bs (sgT s).length).size + (enB s).size) = False := eq_false (by omega)
  clear hs z0 b1 b2 b3 b4
  go_enter Tryd.func6, Tryd.ntmps6
  go_wp2_with (first
    | (go_at_call 9; (with_reducible refine (turn_at s _ HS.out).mono ?_); rintro e w1 ⟨rfl, hB⟩; have B1 := Aside0.mk hB; clear hB)
    | (go_at_call 11; (with_reducible refine (move_at s _ HS.out).mono ?_); rintro e w2 ⟨A, c, rfl, hc, hC, hB⟩; have B2 := Aside0.mk (below_step B1.out hB); have C2 := Aside0.mk hC; have D2 := Aside0.mk hc; clear hB hC hc)
    | (go_at_call 10; (with_reducible refine (pack_at s A c _ HS.out C2.out D2.out).mono ?_); rintro e w3 ⟨A3, c3, rfl, hc, hC, hB⟩; have B3 := Aside0.mk (below_step B2.out hB); have C3 := Aside0.mk hC; have D3 := Aside0.mk hc; clear hB hC hc))
  refine wp_loop_rounds 4 ?_
  rw [rounds_succ]
  go_wp2_with (first
    | (go_at_call 12; (with_reducible refine (vput_at s.size _ HS.out).mono ?_); rintro e w4 ⟨rfl, hB⟩; have C4 := Aside0.mk (Kd.C_below C3.out hB); have B4 := Aside0.mk (below_step B3.out hB); clear hB))
  rw [rounds_succ]
  go_wp2_with (first
    | (go_at_call 12; (with_reducible refine (vput_at (tA s) _ HA.out).mono ?_); rintro e w5 ⟨rfl, hB⟩; have C5 := Aside0.mk (Kd.C_below C4.out hB); have B5 := Aside0.mk (below_step B4.out hB); clear hB))
  rw [rounds_succ]
  go_wp2_with (first
    | (go_at_call 12; (with_reducible refine (vput_at (sgT s).length _ HL.out).mono ?_); rintro e w6 ⟨rfl, hB⟩; have C6 := Aside0.mk (Kd.C_below C5.out hB); have B6 := Aside0.mk (below_step B5.out hB); clear hB))
  rw [rounds_succ]
  go_wp2_with (first
    | (go_at_call 13; (with_reducible refine (benc_at s A3 c3 _ HS.out C6.out D3.out).mono ?_); rintro e w7 ⟨rfl, hB⟩; have B7 := Aside0.mk (below_step B6.out hB); clear hB))
  go_ret2
  exact ⟨by rw [← HE.out]; rfl, B7.out⟩
end Go.Proofs.YtdifgiceallpiaaDoor.Hd
