/- bitw.Writer's other functions, walked by hand. -/
import Derived.Test.YtbbmnaiofdjacaaHWr
set_option linter.unusedVariables false
set_option linter.unusedSimpArgs false
set_option linter.unusedSectionVars false
namespace Go.Proofs.Ytbbmnaiofdjacaa.Hd
open Go.RowKit Go.Proofs.YtbbmnaiofdjacaaW.PrintWords Go.Proofs.YtbbmnaiofdjacaaW.PrintLast Go.Proofs.YtbbmnaiofdjacaaW.PrintMore Go.Proofs.Ytbbmnaiofdjacaa.Hw Go.Proofs.Ytbbmnaiofdjacaa.Com Go.Proofs.Ytbbmnaiofdjacaa.P
attribute [local go_sem] max2_int min2_int max_two min_two max_three min_three max_four min_four

set_option maxHeartbeats 4000000 in
set_option maxRecDepth 100000 in
theorem Put_bad (g : Nat) (x k : Int) (w : World) (h : ¬ (0 ≤ k ∧ k ≤ 56 ∧ x / 2 ^ k.toNat = 0)) :
    Calls Try.prog 11 #[.pointer (some ⟨g, 0, none⟩), .int .u64 x, .int .i64 k] w fun e w' => e = .returned (.int .i64 2) ∧ Below w.heap.size w w' := by
  by_cases h1 : k < 0
  · have t1 : decide (k < 0) = true := decide_eq_true h1
    clear h h1
    go_enter Try.func11, Try.ntmps11
    go_wp2_with ((with_reducible refine gate_dst (N := 3) rfl ?_); refine box_event ?hg (N := 3) ?hd (cs := #[.pointer (some ⟨g, 0, none⟩)]) (t := 24) ?hr ?_; (case hd => rfl); (case hg => rfl); (case hr => first | (go_simp; done) | (go_simp; rfl)); intro b1 hb1 w1 hx1 hB1; have hc1 := (blk_cell hx1 0).trans (rfl : _ = some (Value.pointer (some ⟨g, 0, none⟩))); have B1 := Aside0.mk hB1; clear hx1 hB1 hb1)
    go_ret
    exact ⟨rfl, B1.out⟩
  · have t1 : decide (k < 0) = false := decide_eq_false h1
    by_cases h2 : 56 < k
    · have t2 : decide (k > 56) = true := decide_eq_true h2
      have t3 : decide (56 < k) = true := decide_eq_true h2
      clear h h1 h2
      go_enter Try.func11, Try.ntmps11
      go_wp2_with ((with_reducible refine gate_dst (N := 3) rfl ?_); refine box_event ?hg (N := 3) ?hd (cs := #[.pointer (some ⟨g, 0, none⟩)]) (t := 24) ?hr ?_; (case hd => rfl); (case hg => rfl); (case hr => first | (go_simp; done) | (go_simp; rfl)); intro b1 hb1 w1 hx1 hB1; have hc1 := (blk_cell hx1 0).trans (rfl : _ = some (Value.pointer (some ⟨g, 0, none⟩))); have B1 := Aside0.mk hB1; clear hx1 hB1 hb1)
      go_ret
      exact ⟨rfl, B1.out⟩
    · have t2 : decide (k > 56) = false := decide_eq_false h2
      have t3 : decide (56 < k) = false := decide_eq_false h2
      have p1 : (0 ≤ k) = True := eq_true (by omega)
      have sh : (x / 2 ^ min k.toNat 64 != 0) = true := by
        have e1 : min k.toNat 64 = k.toNat := by omega
        rw [e1]
        exact bne_iff_ne.2 (fun e => h ⟨by omega, by omega, e⟩)
      clear h h1 h2
      go_enter Try.func11, Try.ntmps11
      go_wp2_with ((with_reducible refine gate_dst (N := 3) rfl ?_); refine box_event ?hg (N := 3) ?hd (cs := #[.pointer (some ⟨g, 0, none⟩)]) (t := 24) ?hr ?_; (case hd => rfl); (case hg => rfl); (case hr => first | (go_simp; done) | (go_simp; rfl)); intro b1 hb1 w1 hx1 hB1; have hc1 := (blk_cell hx1 0).trans (rfl : _ = some (Value.pointer (some ⟨g, 0, none⟩))); have B1 := Aside0.mk hB1; clear hx1 hB1 hb1)
      go_ret
      exact ⟨rfl, B1.out⟩

set_option maxHeartbeats 4000000 in
set_option maxRecDepth 100000 in
theorem Put_none (x k : Int) (w : World) : Calls Try.prog 11 #[.pointer none, .int .u64 x, .int .i64 k] w fun e w' => e = .returned (.int .i64 1) ∧ Below w.heap.size w w' := by
  go_enter Try.func11, Try.ntmps11
  go_wp2_with ((with_reducible refine gate_dst (N := 3) rfl ?_); refine box_event ?hg (N := 3) ?hd (cs := #[.pointer none]) (t := 24) ?hr ?_; (case hd => rfl); (case hg => rfl); (case hr => first | (go_simp; done) | (go_simp; rfl)); intro b1 hb1 w1 hx1 hB1; have hc1 := (blk_cell hx1 0).trans (rfl : _ = some (Value.pointer none)); have B1 := Aside0.mk hB1; clear hx1 hB1 hb1)
  go_ret
  exact ⟨rfl, B1.out⟩

theorem Align_none (w : World) : Calls Try.prog 9 #[.pointer none] w fun e w' => e = .returned (.int .i64 0) ∧ Drawn0 w w' := by
  go_enter Try.func9, Try.ntmps9
  go_wp2
  go_ret
  exact ⟨rfl, by repeat (first | exact Drawn0.refl _ | apply Drawn0.step)⟩
theorem Len_none (w : World) : Calls Try.prog 12 #[.pointer none] w fun e w' => e = .returned (.int .i64 0) ∧ Drawn0 w w' := by
  go_enter Try.func12, Try.ntmps12
  go_wp2
  go_ret
  exact ⟨rfl, by repeat (first | exact Drawn0.refl _ | apply Drawn0.step)⟩
theorem Bytes_none (w : World) : Calls Try.prog 13 #[.pointer none] w fun e w' => e = .returned (.string ⟨#[]⟩) ∧ Drawn0 w w' := by
  go_enter Try.func13, Try.ntmps13
  go_wp2
  go_ret
  exact ⟨rfl, by repeat (first | exact Drawn0.refl _ | apply Drawn0.step)⟩

set_option maxHeartbeats 4000000 in
set_option maxRecDepth 100000 in
theorem Len_ok (g : Nat) (v : Value) (xs : List Int) (wo n : Int) (base : Nat) (w : World) (hI : Wr w base g v xs wo n) :
    Calls Try.prog 12 #[.pointer (some ⟨g, 0, none⟩)] w fun e w' => e = .returned (.int .i64 (wrap64 (wrap64 ((xs.length : Int) * 8) + n))) ∧ Drawn0 w w' := by
  obtain ⟨h1, h2⟩ := hI
  obtain ⟨A, c, rfl⟩ := Kd.R_slice h2
  have hg0 := (blk_cell h1 0).trans (rfl : _ = some (Value.slice A xs.length c))
  have hg2 := (blk_cell h1 2).trans (rfl : _ = some (Value.int .i64 n))
  clear h1 h2
  go_enter Try.func12, Try.ntmps12
  go_wp2
  repeat (go_quiet (fail); try go_wp2)
  go_ret
  exact ⟨rfl, by repeat (first | exact Drawn0.refl _ | apply Drawn0.step)⟩
end Go.Proofs.Ytbbmnaiofdjacaa.Hd
