/- sorted.numbers, walked by hand. -/
import Derived.Test.YtdifgiceallpiaaDoorZHSo
set_option linter.unusedVariables false
set_option linter.unusedSimpArgs false
set_option linter.unusedSectionVars false
namespace Go.Proofs.YtdifgiceallpiaaDoor.Hd
open Go Go.RowKit Go.Proofs.YtdifgiceallpiaaDoorW.PrintWords Go.Proofs.YtdifgiceallpiaaDoorW.PrintLast Go.Proofs.YtdifgiceallpiaaDoorW.PrintMore Go.Proofs.YtdifgiceallpiaaDoor.Hw Go.Proofs.YtdifgiceallpiaaDoor.Com Go.Proofs.YtdifgiceallpiaaDoor.P Go.Proofs.YtdifgiceallpiaaDoor.Pure
attribute [local go_sem] max2_int min2_int max_two min_two max_three min_three max_four min_four
theorem results_cell2 {P : Program} {fn : Func} {p t u : Tmp} {ty : TypeId} (h : fn.results = #[.cell p ty, .tmp t, .tmp u]) (tmps : Array Value) (w : World) (g : Nat) (k : IntKind) (r : List Int) (d : TypeDesc)
    (hp : tmps.getD p undef = .pointer (some ⟨g, 0, none⟩)) (hg : Blk w g k ty r) (hu : P.underlying ty = some d) (hd : (match d with | .struct _ | .array _ _ => true | _ => false) = true) (hi : (P.info? ty).map (·.size) = some r.length) :
    (results fn tmps).run P w = .ok (.tuple #[.agg (ints k r), tmps.getD t undef, tmps.getD u undef]) w := by
  have hp' : tmps[p]?.getD undef = .pointer (some ⟨g, 0, none⟩) := by simpa using hp
  simp [results, h, hp', asAddr, run_loadVar_row w g ty ty (ints k r) (0, 0) d hg hu hd (by rw [ints_size]; exact hi)]
theorem infoA3 : (Tryd.prog.info? 33).map (fun i => (i.zero, i.size, i.bytes)) = some (some (.agg #[.int .i64 0, .int .i64 0, .int .i64 0]), 3, 24) := by kernel_rfl
theorem sizeA3 : (Tryd.prog.info? 33).map (·.size) = some 3 := by kernel_rfl
theorem zeroA3 : (Value.agg #[.int .i64 0, .int .i64 0, .int .i64 0]).cells = ints .i64 [0, 0, 0] := rfl
theorem vread_at (s t : ByteArray) (n e0 : Int) (w : World) (h : rdS s 5 = (n, t, e0)) : Calls Tryd.prog 57 #[.string s] w fun e w' => e = .returned (.tuple #[.int .i64 n, .string t, .int .i64 e0]) ∧ Below w.heap.size w w' := by
  obtain ⟨k, hk⟩ := so_get (read_ev s)
  rw [h] at hk
  refine (varint_Read.calls k s _ _ _ w hk).mono ?_
  rintro e w' ⟨rfl, hd⟩
  exact ⟨rfl, hd.below⟩
set_option maxHeartbeats 8000000 in
set_option maxRecDepth 100000 in
theorem numbers_ok (s rest : ByteArray) (n0 n1 n2 : Int) (w : World) (hN : Nums s n0 n1 n2 rest) (h0 : n0 ≤ 65536) (h2 : n2 ≤ 1048576) :
    Calls Tryd.prog 37 #[.string s] w fun e w' => e = .returned (.tuple #[.agg #[.int .i64 n0, .int .i64 n1, .int .i64 n2], .string rest, .nilIface]) ∧ Below w.heap.size w w' := by
  obtain ⟨s1, s2, r0, r1, r2⟩ := hN
  have R0 := Aside0.mk r0
  have R1 := Aside0.mk r1
  have R2 := Aside0.mk r2
  have t1 : decide (65536 < n0) = false := decide_eq_false (by omega)
  have t2 : decide (1048576 < n2) = false := decide_eq_false (by omega)
  clear r0 r1 r2 h0 h2
  have B0 := Aside0.mk (Below.refl w.heap.size w)
  go_enter Tryd.func37, Tryd.ntmps37
  go_wp2_with (first
    | ((with_reducible refine gate_dst (N := 2) rfl ?_); refine alloc_blk rfl rfl infoA3 .i64 _ zeroA3 ?_; intro g2 w1 G2 K2 B1)
    | ((with_reducible refine gate_dst (N := 5) rfl ?_); refine alloc_blk rfl rfl infoA3 .i64 _ zeroA3 ?_; intro g5 w2 G5 K5 B2; have NE := Aside0.mk (show g2 ≠ g5 by have := K2.out.lt; have := G5.out; omega); have GE := Aside0.mk (show w.heap.size ≤ g5 by have := B1.out.size; have := G5.out; omega); have K2 := Aside0.mk (K2.out.below B2.out); have BA := Aside0.mk (below_step B1.out B2.out)))
  clear B1 B2 G5
  refine wp_loop_rounds 4 ?_
  rw [rounds_succ]
  go_wp2_with (first
    | (go_at_call 57; (with_reducible refine (vread_at s s1 n0 0 _ R0.out).mono ?_); rintro e w3 ⟨rfl, hB⟩; have K2 := Aside0.mk (K2.out.below hB); have K5 := Aside0.mk (K5.out.below hB); have B3 := Aside0.mk (below_step BA.out hB); have c5 := K5.out.cell 0 (show 0 < 3 by decide); have f5 := K5.out.free 0; clear hB BA))
  have K5 := Aside0.mk (show Blk _ g5 .i64 33 [n0, 0, 0] from K5.out.put 0 n0)
  have K2 := Aside0.mk (K2.out.far (p := ⟨g5, 0, none⟩) NE.out (.int .i64 n0))
  have BA := Aside0.mk (below_set (j := 0) (v := .int .i64 n0) B3.out GE.out)
  clear B3 c5 f5
  rw [rounds_succ]
  go_wp2_with (first
    | (go_at_call 57; (with_reducible refine (vread_at s1 s2 n1 0 _ R1.out).mono ?_); rintro e w3 ⟨rfl, hB⟩; have K2 := Aside0.mk (K2.out.below hB); have K5 := Aside0.mk (K5.out.below hB); have B3 := Aside0.mk (below_step BA.out hB); have c5 := K5.out.cell 1 (show 1 < 3 by decide); have f5 := K5.out.free 1; clear hB BA))
  have K5 := Aside0.mk (show Blk _ g5 .i64 33 [n0, n1, 0] from K5.out.put 1 n1)
  have K2 := Aside0.mk (K2.out.far (p := ⟨g5, 1, none⟩) NE.out (.int .i64 n1))
  have BA := Aside0.mk (below_set (j := 1) (v := .int .i64 n1) B3.out GE.out)
  clear B3 c5 f5
  rw [rounds_succ]
  go_wp2_with (first
    | (go_at_call 57; (with_reducible refine (vread_at s2 rest n2 0 _ R2.out).mono ?_); rintro e w3 ⟨rfl, hB⟩; have K2 := Aside0.mk (K2.out.below hB); have K5 := Aside0.mk (K5.out.below hB); have B3 := Aside0.mk (below_step BA.out hB); have c5 := K5.out.cell 2 (show 2 < 3 by decide); have f5 := K5.out.free 2; clear hB BA))
  have K5 := Aside0.mk (show Blk _ g5 .i64 33 [n0, n1, n2] from K5.out.put 2 n2)
  have K2 := Aside0.mk (K2.out.far (p := ⟨g5, 2, none⟩) NE.out (.int .i64 n2))
  have BA := Aside0.mk (below_set (j := 2) (v := .int .i64 n2) B3.out GE.out)
  clear B3 c5 f5
  have d0 := K5.out.cell 0 (show 0 < 3 by decide)
  have d2 := K5.out.cell 2 (show 2 < 3 by decide)
  rw [rounds_succ]
  go_wp2_with (first
    | ((with_reducible refine gate_dst (N := 41) rfl ?_); refine load_blk rfl 33 (.tmp 5) rfl g5 rfl .i64 _ K5.out _ Tryd.underlying33 rfl sizeA3 ?_)
    | ((with_reducible refine gate_store (t := 33) (p := 2) rfl ?_); refine store_blk rfl 33 (.tmp 2) (.tmp 41) rfl g2 .i64 _ [n0, n1, n2] rfl rfl K2.out sizeA3 rfl ?_; intro w4 K4 E4))
  refine bodyPost_ret (results_cell2 rfl _ _ g2 .i64 [n0, n1, n2] _ rfl K4.out Tryd.underlying33 rfl sizeA3) rfl ?_
  exact ⟨rfl, below_grown BA.out E4.out G2.out BA.out.size⟩
set_option maxHeartbeats 8000000 in
set_option maxRecDepth 100000 in
theorem numbers_short (s s1 s2 rest : ByteArray) (n0 n1 n2 : Int) (w : World) (r0 : rdS s 5 = (n0, s1, 0)) (r1 : rdS s1 5 = (n1, s2, 0)) (r2 : rdS s2 5 = (n2, rest, 3)) :
    Calls Tryd.prog 37 #[.string s] w fun e w' => e = .returned (.tuple #[.agg #[.int .i64 n0, .int .i64 n1, .int .i64 0], .string ⟨#[]⟩, .iface 45 (.agg #[.int .i64 3])]) ∧ Below w.heap.size w w' := by
  have R0 := Aside0.mk r0
  have R1 := Aside0.mk r1
  have R2 := Aside0.mk r2
  clear r0 r1 r2
  have B0 := Aside0.mk (Below.refl w.heap.size w)
  go_enter Tryd.func37, Tryd.ntmps37
  go_wp2_with (first
    | ((with_reducible refine gate_dst (N := 2) rfl ?_); refine alloc_blk rfl rfl infoA3 .i64 _ zeroA3 ?_; intro g2 w1 G2 K2 B1)
    | ((with_reducible refine gate_dst (N := 5) rfl ?_); refine alloc_blk rfl rfl infoA3 .i64 _ zeroA3 ?_; intro g5 w2 G5 K5 B2; have NE := Aside0.mk (show g2 ≠ g5 by have := K2.out.lt; have := G5.out; omega); have GE := Aside0.mk (show w.heap.size ≤ g5 by have := B1.out.size; have := G5.out; omega); have K2 := Aside0.mk (K2.out.below B2.out); have BA := Aside0.mk (below_step B1.out B2.out)))
  clear B1 B2 G5
  refine wp_loop_rounds 4 ?_
  rw [rounds_succ]
  go_wp2_with (first
    | (go_at_call 57; (with_reducible refine (vread_at s s1 n0 0 _ R0.out).mono ?_); rintro e w3 ⟨rfl, hB⟩; have K2 := Aside0.mk (K2.out.below hB); have K5 := Aside0.mk (K5.out.below hB); have B3 := Aside0.mk (below_step BA.out hB); have c5 := K5.out.cell 0 (show 0 < 3 by decide); have f5 := K5.out.free 0; clear hB BA))
  have K5 := Aside0.mk (show Blk _ g5 .i64 33 [n0, 0, 0] from K5.out.put 0 n0)
  have K2 := Aside0.mk (K2.out.far (p := ⟨g5, 0, none⟩) NE.out (.int .i64 n0))
  have BA := Aside0.mk (below_set (j := 0) (v := .int .i64 n0) B3.out GE.out)
  clear B3 c5 f5
  rw [rounds_succ]
  go_wp2_with (first
    | (go_at_call 57; (with_reducible refine (vread_at s1 s2 n1 0 _ R1.out).mono ?_); rintro e w3 ⟨rfl, hB⟩; have K2 := Aside0.mk (K2.out.below hB); have K5 := Aside0.mk (K5.out.below hB); have B3 := Aside0.mk (below_step BA.out hB); have c5 := K5.out.cell 1 (show 1 < 3 by decide); have f5 := K5.out.free 1; clear hB BA))
  have K5 := Aside0.mk (show Blk _ g5 .i64 33 [n0, n1, 0] from K5.out.put 1 n1)
  have K2 := Aside0.mk (K2.out.far (p := ⟨g5, 1, none⟩) NE.out (.int .i64 n1))
  have BA := Aside0.mk (below_set (j := 1) (v := .int .i64 n1) B3.out GE.out)
  clear B3 c5 f5
  rw [rounds_succ]
  go_wp2_with (first
    | (go_at_call 57; (with_reducible refine (vread_at s2 rest n2 3 _ R2.out).mono ?_); rintro e w3 ⟨rfl, hB⟩; have K2 := Aside0.mk (K2.out.below hB); have K5 := Aside0.mk (K5.out.below hB); have B3 := Aside0.mk (below_step BA.out hB); clear hB BA)
    | ((with_reducible refine gate_dst (N := 21) rfl ?_); refine load_blk rfl 33 (.tmp 5) rfl g5 rfl .i64 _ K5.out _ Tryd.underlying33 rfl sizeA3 ?_)
    | ((with_reducible refine gate_store (t := 33) (p := 2) rfl ?_); refine store_blk rfl 33 (.tmp 2) (.tmp 21) rfl g2 .i64 _ [n0, n1, 0] rfl rfl K2.out sizeA3 rfl ?_; intro w4 K4 E4))
  refine bodyPost_ret (results_cell2 rfl _ _ g2 .i64 [n0, n1, 0] _ rfl K4.out Tryd.underlying33 rfl sizeA3) rfl ?_
  exact ⟨rfl, below_grown B3.out E4.out G2.out B3.out.size⟩
end Go.Proofs.YtdifgiceallpiaaDoor.Hd
