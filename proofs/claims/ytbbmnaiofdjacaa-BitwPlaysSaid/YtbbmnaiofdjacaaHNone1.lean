/- The law of a writer that is none, walked by hand. -/
import Derived.Test.YtbbmnaiofdjacaaHAwake1
set_option linter.unusedVariables false
set_option linter.unusedSimpArgs false
set_option linter.unusedSectionVars false
namespace Go.Proofs.Ytbbmnaiofdjacaa.P
open Go.RowKit Go.Proofs.YtbbmnaiofdjacaaW.PrintWords Go.Proofs.YtbbmnaiofdjacaaW.PrintLast Go.Proofs.YtbbmnaiofdjacaaW.PrintMore Go.Proofs.Ytbbmnaiofdjacaa.Hw Go.Proofs.Ytbbmnaiofdjacaa.Hd
attribute [local go_sem] max2_int min2_int max_two min_two max_three min_three max_four min_four

set_option maxHeartbeats 4000000 in
set_option maxRecDepth 100000 in
theorem gladstonelaw01_BitwNone.calls (d n x : Int) (r : Bool) (w : World) (hr : true = r) :
    Calls Try.prog 5 #[.agg #[.int .i64 d, .int .i64 n, .int .u64 x]] w fun e w' => e = .returned (.bool r) ∧ Below w.heap.size w w' := by
  subst hr
  go_enter Try.func5, Try.ntmps5
  go_wp2_with (first
    | ((with_reducible refine gate_dst (N := 1) rfl ?_); refine box_event ?hg (N := 1) ?hd (cs := #[.int .i64 d, .int .i64 n, .int .u64 x]) (t := 29) ?hr ?_; (case hd => rfl); (case hg => rfl); (case hr => first | (go_simp; done) | (go_simp; rfl)); intro g1 hg1 w1 hx1 hB1; have hc := (blk_cell hx1 1).trans (rfl : _ = some (Value.int .i64 n)); have hc2 := (blk_cell hx1 2).trans (rfl : _ = some (Value.int .u64 x)); have B1 := Aside0.mk hB1; clear hx1 hB1 hg1)
    | (go_at_call 11; refine (Put_none _ _ _).mono ?_; rintro e w2 ⟨rfl, hB2⟩; have B2 := Aside0.mk hB2; clear hB2)
    | (go_at_call 9; refine (Align_none _).mono ?_; rintro e w5 ⟨rfl, n5, rfl⟩)
    | (go_at_call 12; refine (Len_none _).mono ?_; rintro e w6 ⟨rfl, n6, rfl⟩)
    | (go_at_call 13; refine (Bytes_none _).mono ?_; rintro e w7 ⟨rfl, n7, rfl⟩)
    | (go_at_call 6; refine (gladstonelaw01_awake.calls _).mono ?_; rintro e w8 ⟨rfl, hB8⟩; have B8 := Aside0.mk hB8; clear hB8))
  go_ret
  exact ⟨rfl, below_step (pw_below_drewN (below_step (below_step (Below.refl _ _) B1.out) B2.out) _) B8.out⟩
end Go.Proofs.Ytbbmnaiofdjacaa.P
