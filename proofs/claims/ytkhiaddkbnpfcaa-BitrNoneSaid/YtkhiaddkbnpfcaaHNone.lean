/- The law of a reader that is none, walked by hand. -/
import Derived.Test.YtkhiaddkbnpfcaaHNil
set_option linter.unusedVariables false
set_option linter.unusedSimpArgs false
set_option linter.unusedSectionVars false
namespace Go.Proofs.Ytkhiaddkbnpfcaa.P
open Go.RowKit Go.Proofs.YtkhiaddkbnpfcaaW.PrintWords Go.Proofs.YtkhiaddkbnpfcaaW.PrintLast Go.Proofs.YtkhiaddkbnpfcaaW.PrintMore Go.Proofs.Ytkhiaddkbnpfcaa.Hw Go.Proofs.Ytkhiaddkbnpfcaa.Hd
attribute [local go_sem] max2_int min2_int max_two min_two max_three min_three max_four min_four

set_option maxHeartbeats 4000000 in
set_option maxRecDepth 100000 in
theorem gladstonelaw02_BitrNone.calls (k : Nat) (d n : Int) (r : Bool) (w : World) (h : gladstonelaw02_awake.f k = some r) :
    Calls Try.prog 5 #[.agg #[.int .i64 d, .int .i64 n]] w fun e w' => e = .returned (.bool r) ∧ Below w.heap.size w w' := by
  have H := Aside0.mk h
  clear h
  go_enter Try.func5, Try.ntmps5
  go_wp2_with (first
    | ((with_reducible refine gate_dst (N := 1) rfl ?_); refine box_event ?hg (N := 1) ?hd (cs := #[.int .i64 d, .int .i64 n]) (t := 33) ?hr ?_; (case hd => rfl); (case hg => rfl); (case hr => first | (go_simp; done) | (go_simp; rfl)); intro g1 hg1 w1 hx1 hB1; have hc := (blk_cell hx1 1).trans (rfl : _ = some (Value.int .i64 n)); have B1 := Aside0.mk hB1; clear hx1 hB1 hg1)
    | (go_at_call 15; refine (Take_nil _ _).mono ?_; rintro e w2 ⟨rfl, n2, rfl⟩)
    | (go_at_call 14; refine (Peek_nil _ _).mono ?_; rintro e w3 ⟨rfl, n3, rfl⟩)
    | (go_at_call 16; refine (Skip_nil _ _).mono ?_; rintro e w4 ⟨rfl, n4, rfl⟩)
    | (go_at_call 17; refine (Align_nil _).mono ?_; rintro e w5 ⟨rfl, n5, rfl⟩)
    | (go_at_call 10; refine (At_nil _).mono ?_; rintro e w6 ⟨rfl, n6, rfl⟩)
    | (go_at_call 11; refine (Left_nil _).mono ?_; rintro e w7 ⟨rfl, n7, rfl⟩)
    | (go_at_call 6; refine (gladstonelaw02_awake.calls k r _ H.out).mono ?_; rintro e w8 ⟨rfl, hB8⟩; have B8 := Aside0.mk hB8; clear hB8))
  go_ret
  exact ⟨rfl, below_step (pw_below_drewN (below_step (Below.refl _ _) B1.out) _) B8.out⟩
end Go.Proofs.Ytkhiaddkbnpfcaa.P
