/- Chapter 1's example, walked by hand. -/
import Derived.Test.YtbbmnaiofdjacaaHWr4
set_option linter.unusedVariables false
set_option linter.unusedSimpArgs false
set_option linter.unusedSectionVars false
namespace Go.Proofs.Ytbbmnaiofdjacaa.Hd
open Go.RowKit Go.Proofs.YtbbmnaiofdjacaaW.PrintWords Go.Proofs.YtbbmnaiofdjacaaW.PrintLast Go.Proofs.YtbbmnaiofdjacaaW.PrintMore Go.Proofs.Ytbbmnaiofdjacaa.Hw Go.Proofs.Ytbbmnaiofdjacaa.Com Go.Proofs.Ytbbmnaiofdjacaa.P
/-- Put_b, what it answers told by an equation. -/
theorem Put_c (g : Nat) (v : Value) (l : List Bool) (x k : Int) (base : Nat) (w : World) (l' : List Bool) (ec : Int) (hr : rput l x k = (l', ec)) (hI : Wb w base g v l) (hb : base ≤ g) (h0 : 0 ≤ x) (hx : x < 18446744073709551616) (hl : l.length ≤ 1099511627776) :
    Calls Try.prog 11 #[.pointer (some ⟨g, 0, none⟩), .int .u64 x, .int .i64 k] w fun e w' => ∃ v' : Value, e = .returned (.int .i64 ec) ∧ Wb w' base g v' l' ∧ Fr w w' g v ∧ Nw w v v' := by
  have h := Put_b g v l x k base w hI hb h0 hx hl
  rw [hr] at h
  exact h
/-- What is below, step by step, though a writer writes. -/
theorem Fr.join {w w1 w2 : World} {g : Nat} {v : Value} (hB : Below w.heap.size w w1) (hF : Fr w1 w2 g v) (hg : w.heap.size ≤ g) (hv : ∀ b, v.ownBlock = some b → w.heap.size ≤ b) : Below w.heap.size w w2 := by
  obtain ⟨f1, f2, f3, f4, f5⟩ := hF
  refine ⟨f1.trans hB.os, f2.trans hB.tape, f3.trans hB.output, Nat.le_trans hB.size f4, fun i hi => ?_⟩
  have hs := hB.size
  refine (f5 i (by omega) (by omega) (fun e => ?_)).trans (hB.block i hi)
  have := hv i e.symm
  omega
/-- A writer's own row is of the call's. -/
theorem Wb.own {W : World} {base g : Nat} {v : Value} {l : List Bool} (h : Wb W base g v l) : ∀ b, v.ownBlock = some b → base ≤ b := by
  obtain ⟨B, wo, n, h1, h2, h3, h4, h5⟩ := h
  intro b hb
  exact Kd.R_base h5.2 b hb
end Go.Proofs.Ytbbmnaiofdjacaa.Hd
namespace Go.Proofs.Ytbbmnaiofdjacaa.P
open Go.RowKit Go.Proofs.YtbbmnaiofdjacaaW.PrintWords Go.Proofs.YtbbmnaiofdjacaaW.PrintLast Go.Proofs.YtbbmnaiofdjacaaW.PrintMore Go.Proofs.Ytbbmnaiofdjacaa.Hw Go.Proofs.Ytbbmnaiofdjacaa.Com Go.Proofs.Ytbbmnaiofdjacaa.Hd
attribute [local go_sem] max2_int min2_int max_two min_two max_three min_three max_four min_four
set_option maxHeartbeats 8000000 in
set_option maxRecDepth 100000 in
theorem gladstonelaw01_awake.calls (w : World) : Calls Try.prog 6 #[] w fun e w' => e = .returned (.bool true) ∧ Below w.heap.size w w' := by
  have hbs : bstr [true, false, true] = ⟨#[5]⟩ := by decide
  go_enter Try.func6, Try.ntmps6
  go_wp2_with (first
    | (go_at_call 7; refine (New_ok _).mono ?_; rintro e w1 ⟨g, rfl, hW, hg, hB⟩; have W1 := Aside0.mk (show Wb w1 w.heap.size g (.slice none 0 0) [] from ⟨[], 0, 0, by simp, by omega, by simp, rfl, hW⟩); have G1 := Aside0.mk hg; have B1 := Aside0.mk hB; clear hW hg hB)
    | (go_at_call 11; with_reducible refine (Put_c g _ [] 1 1 w.heap.size _ [true] 0 (by decide) W1.out G1.out (by decide) (by decide) (by simp)).mono ?_; rintro e w2 ⟨v2, rfl, hW, hF, hN⟩; have W2 := Aside0.mk hW; have B2 := Aside0.mk (Fr.join B1.out hF G1.out W1.out.own); clear hW hF hN)
    | (go_at_call 11; with_reducible refine (Put_c g _ [true] 2 2 w.heap.size _ [true, false, true] 0 (by decide) W2.out G1.out (by decide) (by decide) (by simp)).mono ?_; rintro e w3 ⟨v3, rfl, hW, hF, hN⟩; have W3 := Aside0.mk hW; have B3 := Aside0.mk (Fr.join B2.out hF G1.out W2.out.own); clear hW hF hN)
    | (go_at_call 11; with_reducible refine (Put_c g _ [true, false, true] 4 2 w.heap.size _ [true, false, true] 2 (by decide) W3.out G1.out (by decide) (by decide) (by simp)).mono ?_; rintro e w4 ⟨v4, rfl, hW, hF, hN⟩; have W4 := Aside0.mk hW; have B4 := Aside0.mk (Fr.join B3.out hF G1.out W3.out.own); clear hW hF hN)
    | (go_at_call 11; with_reducible refine (Put_c g _ [true, false, true] 0 57 w.heap.size _ [true, false, true] 2 (by decide) W4.out G1.out (by decide) (by decide) (by simp)).mono ?_; rintro e w5 ⟨v5, rfl, hW, hF, hN⟩; have W5 := Aside0.mk hW; have B5 := Aside0.mk (Fr.join B4.out hF G1.out W4.out.own); clear hW hF hN)
    | (go_at_call 13; refine (Bytes_b g _ [true, false, true] w.heap.size _ W5.out (by simp)).mono ?_; rintro e w6 ⟨rfl, hB⟩; rw [hbs]; have W6 := Aside0.mk (W5.out.below hB); have B6 := Aside0.mk (below_step B5.out hB); clear hB)
    | (go_at_call 12; refine (Len_b g _ [true, false, true] w.heap.size _ W6.out (by simp)).mono ?_; rintro e w7 ⟨rfl, n7, rfl⟩; have W7 := Aside0.mk (W6.out.below (pw_below_drewN (Below.refl _ _) n7)); have B7 := Aside0.mk (pw_below_drewN B6.out n7); clear W6)
    | (go_at_call 9; refine (Align_b g _ [true, false, true] w.heap.size _ W7.out G1.out (by simp)).mono ?_; rintro e w8 ⟨v8, rfl, hW, hF, hN⟩; have W8 := Aside0.mk (show Wb w8 w.heap.size g v8 [true, false, true, false, false, false, false, false] from hW); have B8 := Aside0.mk (Fr.join B7.out hF G1.out W7.out.own); clear hW hF hN W7)
    | (go_at_call 12; refine (Len_b g _ [true, false, true, false, false, false, false, false] w.heap.size _ W8.out (by simp)).mono ?_; rintro e w9 ⟨rfl, n9, rfl⟩; have W9 := Aside0.mk (W8.out.below (pw_below_drewN (Below.refl _ _) n9)); have B9 := Aside0.mk (pw_below_drewN B8.out n9))
    | (go_at_call 9; refine (Align_b g _ [true, false, true, false, false, false, false, false] w.heap.size _ W9.out G1.out (by simp)).mono ?_; rintro e w10 ⟨v10, rfl, hW, hF, hN⟩; have B10 := Aside0.mk (Fr.join B9.out hF G1.out W9.out.own); clear hW hF hN))
  go_ret
  exact ⟨rfl, B10.out⟩
end Go.Proofs.Ytbbmnaiofdjacaa.P
