/- The law of a decoder that is none, walked by hand; the example, as the print takes it. -/
import Derived.Test.YtfijcedckpkpfaaHAwake45
set_option linter.unusedVariables false
set_option linter.unusedSimpArgs false
set_option linter.unusedSectionVars false
namespace Go.Proofs.Ytfijcedckpkpfaa.Hd
open Go.RowKit Go.Proofs.YtfijcedckpkpfaaW.PrintWords Go.Proofs.YtfijcedckpkpfaaW.PrintLast Go.Proofs.YtfijcedckpkpfaaW.PrintMore Go.Proofs.Ytfijcedckpkpfaa.Hw Go.Proofs.Ytfijcedckpkpfaa.P
def gladstonelaw45_awake.f : Option Bool := some true
theorem gladstonelaw45_awake.calls (r : Bool) (w : World) (h : gladstonelaw45_awake.f = some r) : Calls Try.prog 7 #[] w fun e w' => e = .returned (.bool r) ∧ Below w.heap.size w w' := by
  obtain rfl := Option.some.inj h
  exact Go.Proofs.Ytfijcedckpkpfaa.P.awake45_calls w
end Go.Proofs.Ytfijcedckpkpfaa.Hd
namespace Go.Proofs.Ytfijcedckpkpfaa.P
open Go.RowKit Go.Proofs.YtfijcedckpkpfaaW.PrintWords Go.Proofs.YtfijcedckpkpfaaW.PrintLast Go.Proofs.YtfijcedckpkpfaaW.PrintMore Go.Proofs.Ytfijcedckpkpfaa.Hw Go.Proofs.Ytfijcedckpkpfaa.Hd
attribute [local go_sem] max2_int min2_int max_two min_two max_three min_three max_four min_four
set_option maxHeartbeats 4000000 in
set_option maxRecDepth 100000 in
theorem gladstonelaw45_RangerNone.calls (p : Int) (r : Bool) (w : World) (hr : true = r) :
    Calls Try.prog 6 #[.int .i64 p] w fun e w' => e = .returned (.bool r) ∧ Below w.heap.size w w' := by
  subst hr
  go_enter Try.func6, Try.ntmps6
  go_wp2_with (first
    | (go_at_call 15; (with_reducible refine (Bit_nil p _).mono ?_); rintro e w1 ⟨rfl, hd⟩; have B1 := Aside0.mk (drawn_b hd); clear hd)
    | (go_at_call 7; (with_reducible refine (Go.Proofs.Ytfijcedckpkpfaa.P.awake45_calls _).mono ?_); rintro e w2 ⟨rfl, hB⟩; have B2 := Aside0.mk (below_step B1.out hB); clear hB))
  go_ret
  exact ⟨rfl, B2.out⟩
end Go.Proofs.Ytfijcedckpkpfaa.P
