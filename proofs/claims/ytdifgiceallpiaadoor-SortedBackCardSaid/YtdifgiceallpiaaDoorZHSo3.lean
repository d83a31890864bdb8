/- sorted.read, walked by hand. -/
import Derived.Test.YtdifgiceallpiaaDoorZHSo2
set_option linter.unusedVariables false
set_option linter.unusedSimpArgs false
set_option linter.unusedSectionVars false
namespace Go.Proofs.YtdifgiceallpiaaDoor.Hd
open Go Go.RowKit Go.Proofs.YtdifgiceallpiaaDoorW.PrintWords Go.Proofs.YtdifgiceallpiaaDoorW.PrintLast Go.Proofs.YtdifgiceallpiaaDoorW.PrintMore Go.Proofs.YtdifgiceallpiaaDoor.Hw Go.Proofs.YtdifgiceallpiaaDoor.Com Go.Proofs.YtdifgiceallpiaaDoor.P Go.Proofs.YtdifgiceallpiaaDoor.Pure
attribute [local go_sem] max2_int min2_int max_two min_two max_three min_three max_four min_four
theorem check_ok (w : World) : Calls Tryd.prog 40 #[.int .i64 0] w fun e w' => e = .returned .nilIface ∧ Below w.heap.size w w' := by
  go_enter Tryd.func40, Tryd.ntmps40
  go_wp2
  go_ret
  exact ⟨rfl, Below.refl _ _⟩
theorem bdec_at (s T : ByteArray) (w : World) (hs : s.size ≤ 65536) : Calls Tryd.prog 38 #[.string (enB s ++ T), .int .i64 ((sgT s).length : Int), .int .i64 9] w fun e w' => ∃ A c, e = .returned (.tuple #[.slice A (sgT s).length c, .int .i64 0]) ∧ (sgT s).length ≤ c ∧ Kd.C (Kd.int .i64) w' A (sgT s).length (sgT s) ∧ Below w.heap.size w w' := by
  have hf : bittree_Decode.f (enB s ++ T) ((sgT s).length : Int) 9 = some (sgT s, 0) := by unfold bittree_Decode.f; rw [enB_dec hs T]
  refine (bittree_Decode.calls _ _ _ _ _ w hf).mono ?_
  rintro e w' ⟨v, rfl, hR, hB⟩
  obtain ⟨A, c, rfl, hl, hC⟩ := Kd.R_reads hR
  exact ⟨A, c, rfl, hl, hC, hB⟩
theorem unp_at (s : ByteArray) (A : Option Addr) (c : Nat) (w : World) (hs : s.size ≤ 65536) (hC : Kd.C (Kd.int .i64) w A (sgT s).length (sgT s)) (hc : (sgT s).length ≤ c) : Calls Tryd.prog 39 #[.slice A (sgT s).length c] w fun e w' => ∃ A c, e = .returned (.tuple #[.slice A s.size c, .int .i64 0]) ∧ s.size ≤ c ∧ Kd.C (Kd.int .i64) w' A s.size (mvT s) ∧ Below w.heap.size w w' := by
  obtain ⟨k, hk⟩ := so_get (unpack_ev (sgT s) (by have := sgT_length s; omega))
  rw [sgT_un hs] at hk
  refine (zeros_Unpack.calls k A c (sgT s) _ _ w hC hc hk).mono ?_
  rintro e w' ⟨v, rfl, hR, hB⟩
  obtain ⟨A, c, rfl, hl, hC⟩ := Kd.R_reads hR
  rw [mv_length] at hl hC ⊢
  exact ⟨A, c, rfl, hl, hC, hB⟩
theorem mback_at (s : ByteArray) (A : Option Addr) (c : Nat) (w : World) (hs : s.size ≤ 65536) (hC : Kd.C (Kd.int .i64) w A s.size (mvT s)) (hc : s.size ≤ c) : Calls Tryd.prog 41 #[.slice A s.size c] w fun e w' => e = .returned (.tuple #[.string (tS s), .int .i64 0]) ∧ Below w.heap.size w w' := by
  have hf : mtf_Back.f (mvT s) = some (tS s, 0) := by
    unfold mtf_Back.f
    rw [if_pos (by rw [mv_length]; omega), mv_told]
  rw [← mv_length s] at hC hc ⊢
  exact mtf_Back.calls A c (mvT s) _ _ w hC hc hf
theorem bback_at (s : ByteArray) (w : World) (hs : s.size ≤ 65536) : Calls Tryd.prog 42 #[.string (tS s), .int .i64 (tA s : Int)] w fun e w' => e = .returned (.tuple #[.string s, .int .i64 0]) ∧ Below w.heap.size w w' := by
  have hf : bwt_Back.f (tS s) (tA s : Int) = some (s, 0) := by unfold bwt_Back.f; rw [if_pos (by rw [tS_size]; omega), bkO_tn]
  exact bwt_Back.calls _ _ _ _ w hf
theorem nums_at (s y T : ByteArray) (w : World) (hy : y.size ≤ 65536) (hN : Nums s (y.size : Int) (tA y : Int) ((sgT y).length : Int) (enB y ++ T)) :
    Calls Tryd.prog 37 #[.string s] w fun e w' => e = .returned (.tuple #[.agg #[.int .i64 (y.size : Int), .int .i64 (tA y : Int), .int .i64 ((sgT y).length : Int)], .string (enB y ++ T), .nilIface]) ∧ Below w.heap.size w w' :=
  numbers_ok s _ _ _ _ w hN (by omega) (by have := sgT_length y; omega)
set_option maxHeartbeats 8000000 in
set_option maxRecDepth 100000 in
theorem read_at (s y T : ByteArray) (b : Bool) (w : World) (hy : y.size ≤ 65536) (hN : Nums s (y.size : Int) (tA y : Int) ((sgT y).length : Int) (enB y ++ T)) (hb : ((putT y).toList == s.toList) = b) :
    Calls Tryd.prog 19 #[.string s] w fun e w' => e = .returned (if b then .tuple #[.string y, .nilIface] else .tuple #[.string ⟨#[]⟩, .iface 45 (.agg #[.int .i64 4])]) ∧ Below w.heap.size w w' := by
  have HY := Aside0.mk hy
  have HN := Aside0.mk hN
  clear hy hN
  cases b
  all_goals
   go_enter Tryd.func19, Tryd.ntmps19
   go_wp2_with (first
     | (go_at_call 37; (with_reducible refine (nums_at s y T _ HY.out HN.out).mono ?_); rintro e w1 ⟨rfl, hB⟩; have B1 := Aside0.mk hB; clear hB)
     | ((with_reducible refine gate_dst (N := 4) rfl ?_); refine alloc_blk rfl rfl infoA3 .i64 _ zeroA3 ?_; intro g4 w2 G4 K4 B2; have GE := Aside0.mk (Nat.le_trans B1.out.size G4.out); have B3 := Aside0.mk (below_step B1.out B2.out); clear B1 B2 G4)
     | ((with_reducible refine gate_store (t := 33) (p := 4) rfl ?_); refine store_blk rfl 33 (.tmp 4) (.tmp 21) rfl g4 .i64 _ [(y.size : Int), (tA y : Int), ((sgT y).length : Int)] rfl rfl K4.out sizeA3 rfl ?_; intro w5 K5 E5; have B5 := Aside0.mk (below_grown B3.out E5.out GE.out B3.out.size); have c2 := K5.out.cell 2 (show 2 < 3 by decide); clear K4 E5 B3)
     | (go_at_call 38; (with_reducible refine (bdec_at y T _ HY.out).mono ?_); rintro e w6 ⟨A6, n6, rfl, hl, hC, hB⟩; have B6 := Aside0.mk (below_step B5.out hB); have K6 := Aside0.mk (K5.out.below hB); have C6 := Aside0.mk hC; have L6 := Aside0.mk hl; clear hB hC hl c2 B5 K5)
     | (go_at_call 39; (with_reducible refine (unp_at y A6 n6 _ HY.out C6.out L6.out).mono ?_); rintro e w7 ⟨A7, n7, rfl, hl, hC, hB⟩; have B7 := Aside0.mk (below_step B6.out hB); have K7 := Aside0.mk (K6.out.below hB); have C7 := Aside0.mk hC; have L7 := Aside0.mk hl; clear hB hC hl B6 K6)
     | (go_at_call 40; (with_reducible refine (check_ok _).mono ?_); rintro e w8 ⟨rfl, hB⟩; have B7 := Aside0.mk (below_step B7.out hB); have K7 := Aside0.mk (K7.out.below hB); have C7 := Aside0.mk (Kd.C_below C7.out hB); have c0 := K7.out.cell 0 (show 0 < 3 by decide); have c1 := K7.out.cell 1 (show 1 < 3 by decide); clear hB)
     | (go_at_call 41; (with_reducible refine (mback_at y A7 n7 _ HY.out C7.out L7.out).mono ?_); rintro e w9 ⟨rfl, hB⟩; have B7 := Aside0.mk (below_step B7.out hB); have K7 := Aside0.mk (K7.out.below hB); have C7 := Aside0.mk (Kd.C_below C7.out hB); clear hB)
     | (go_at_call 42; (with_reducible refine (bback_at y _ HY.out).mono ?_); rintro e w10 ⟨rfl, hB⟩; have B7 := Aside0.mk (below_step B7.out hB); have K7 := Aside0.mk (K7.out.below hB); have C7 := Aside0.mk (Kd.C_below C7.out hB); clear hB)
     | (go_at_call 6; (with_reducible refine (put_ok y _ HY.out).mono ?_); rintro e w11 ⟨rfl, hB⟩; have B7 := Aside0.mk (below_step B7.out hB); clear hB))
   go_ret2
   exact ⟨rfl, B7.out⟩
end Go.Proofs.YtdifgiceallpiaaDoor.Hd
