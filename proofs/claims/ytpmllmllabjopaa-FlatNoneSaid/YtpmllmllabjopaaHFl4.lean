/- The laws of chapter 10, walked by hand. -/
import Derived.Test.YtpmllmllabjopaaHFl3
import Derived.Test.YtpmllmllabjopaaBtRefB
import Derived.Test.YtpmllmllabjopaaPx4
import Derived.Test.YtpmllmllabjopaaPx3
set_option linter.unusedVariables false
set_option linter.unusedSimpArgs false
set_option linter.unusedSectionVars false
namespace Go.Proofs.Ytpmllmllabjopaa.P
open Go Go.RowKit Go.Deep Go.Proofs.YtpmllmllabjopaaW.PrintWords Go.Proofs.YtpmllmllabjopaaW.PrintLast Go.Proofs.YtpmllmllabjopaaW.PrintMore Go.Proofs.Ytpmllmllabjopaa.Hw Go.Proofs.Ytpmllmllabjopaa.Com Go.Proofs.Ytpmllmllabjopaa.Cn Go.Proofs.Ytpmllmllabjopaa.Pure Go.Proofs.Ytpmllmllabjopaa.Hd
attribute [local go_sem] max2_int min2_int max_two min_two max_three min_three max_four min_four
def gladstonelaw10_FlatNone.f (_ : Nat) (_ : ByteArray) : Option Bool := some true
set_option maxHeartbeats 8000000 in
set_option maxRecDepth 100000 in
theorem FlatNone_walk (a0 : ByteArray) (w : World) : Calls Try.prog 4 #[.string a0] w fun e w' => e = .returned (.bool true) ∧ Below w.heap.size w w' := by
  by_cases h1 : 100 < a0.size
  · have t1 : decide (100 < a0.size) = true := decide_eq_true h1
    have t2 : decide (100 < (a0.size : Int)) = true := decide_eq_true (by omega)
    clear h1
    go_enter Try.func4, Try.ntmps4
    go_wp2_with (first
      | (go_at_call 5; refine (awake10_calls _).mono ?_; rintro e w1 ⟨rfl, hB⟩; have B1 := Aside0.mk hB; clear hB))
    go_ret
    exact ⟨rfl, B1.out⟩
  · have t1 : decide (100 < a0.size) = false := decide_eq_false h1
    have t2 : decide (100 < (a0.size : Int)) = false := decide_eq_false (by omega)
    have HS := Aside0.mk (show a0.size ≤ 17592186044416 by omega)
    have E4 := Aside0.mk (show errN [1, 1] 2 = 0 by decide +kernel)
    clear h1
    go_enter Try.func4, Try.ntmps4
    go_wp2_with (first
      | (go_at_call 8; with_reducible refine (Reader_new a0 _ _ rfl HS.out).mono ?_; rintro e w1 ⟨gr, wb, rfl, -, -, hB, -⟩; have B1 := Aside0.mk hB; clear hB)
      | (go_at_call 12; with_reducible refine (Next_none _ w1).mono ?_; rintro e w2 ⟨rfl, hd⟩; have B2 := Aside0.mk (below_step B1.out hd.below); clear hd)
      | ((with_reducible refine gate_dst (N := 22) rfl ?_); refine lit_event rfl (cs := #[.int .i64 1, .int .i64 1]) (t := 3) (n := 2) ?hr ?_; (case hr => first | (go_simp; done) | (go_simp; rfl)); intro g22 w3 K_ B_; have C22 := Aside0.mk (show Kd.C (Kd.int .i64) w3 (some ⟨g22, 0, none⟩) 2 ([1, 1] : List Int) from iC K_.out); have B3 := Aside0.mk (below_step B2.out B_.out); clear K_ B_)
      | (go_at_call 6; with_reducible refine (New_ok _ 2 _ [1, 1] 2 4 w3 rfl C22.out (by decide) (by decide) E4.out (by decide)).mono ?_; rintro e w4 ⟨g, b, rfl, -, hB⟩; have B4 := Aside0.mk (below_step B3.out hB); clear hB)
      | (go_at_call 12; with_reducible refine (Next_noreader g w4).mono ?_; rintro e w5 ⟨rfl, hd⟩; have B5 := Aside0.mk (below_step B4.out hd.below); clear hd)
      | (go_at_call 10; with_reducible refine (Size_nil w5).mono ?_; rintro e w6 ⟨rfl, hd⟩; have B6 := Aside0.mk (below_step B5.out hd.below); clear hd)
      | (go_at_call 5; with_reducible refine (awake10_calls w6).mono ?_; rintro e w7 ⟨rfl, hB⟩; have B7 := Aside0.mk (below_step B6.out hB); clear hB))
    go_ret
    exact ⟨rfl, B7.out⟩
theorem gladstonelaw10_FlatNone.calls (k : Nat) (a0 : ByteArray) (r : Bool) (w : World) (h : gladstonelaw10_FlatNone.f k a0 = some r) :
    Calls Try.prog 4 #[.string a0] w fun e w' => e = .returned (.bool r) ∧ Below w.heap.size w w' := by
  obtain rfl : true = r := Option.some.inj h
  exact FlatNone_walk a0 w
end Go.Proofs.Ytpmllmllabjopaa.P
namespace Go.Proofs.Ytpmllmllabjopaa.Pure
open Go.Proofs.Ytpmllmllabjopaa.P
theorem FlatNone (a0 : ByteArray) {p0 : Prop} (_ : p0) : ∃ k, gladstonelaw10_FlatNone.f k a0 = some true := ⟨0, rfl⟩
end Go.Proofs.Ytpmllmllabjopaa.Pure
