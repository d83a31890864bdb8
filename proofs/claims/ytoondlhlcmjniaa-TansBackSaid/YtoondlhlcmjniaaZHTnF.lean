/- tans: is a symbol none (ContainsFunc with a function value), walked by hand. -/
import Derived.Test.YtoondlhlcmjniaaZHTnC
set_option linter.unusedVariables false
set_option linter.unusedSimpArgs false
set_option linter.unusedSectionVars false
namespace Go.Proofs.Ytoondlhlcmjniaa.Hd
open Go Go.RowKit Go.Proofs.YtoondlhlcmjniaaW.PrintWords Go.Proofs.YtoondlhlcmjniaaW.PrintLast Go.Proofs.YtoondlhlcmjniaaW.PrintMore Go.Proofs.Ytoondlhlcmjniaa.Hw Go.Proofs.Ytoondlhlcmjniaa.Com Go.Proofs.Ytoondlhlcmjniaa.Cn Go.Proofs.Ytoondlhlcmjniaa.P Go.Proofs.Ytoondlhlcmjniaa.Tn
attribute [local go_sem] max2_int min2_int max_two min_two max_three min_three max_four min_four
/-- A symbol that has no norm. -/
def badS (norm : List Int) (s : Int) : Bool := decide (s < 0) || (decide ((norm.length : Int) ≤ s) || (norm.getD s.toNat 0 == 0))
set_option maxHeartbeats 4000000 in
set_option maxRecDepth 100000 in
theorem bad_ok (gn : Nat) (A0 : Option Addr) (c0 : Nat) (norm : List Int) (s : Int) (w : World) (hg : w.heap[gn]? = some (.cells #[.slice A0 norm.length c0] 22 (0, 0))) (hC : Kd.C (Kd.int .i64) w A0 norm.length norm) :
    Calls Try.prog 34 #[.int .i64 s, .pointer (some ⟨gn, 0, none⟩)] w fun e w' => e = .returned (.bool (badS norm s)) ∧ Below w.heap.size w w' := by
  have k0 : w.cell? ⟨gn, 0, none⟩ = some (.slice A0 norm.length c0) := (blk_cell hg 0).trans rfl
  by_cases h1 : s < 0
  · have t1 : decide (s < 0) = true := decide_eq_true h1
    have HR := Aside0.mk (show badS norm s = true by unfold badS; rw [t1]; rfl)
    clear hg hC h1
    go_enter Try.func34, Try.ntmps34
    go_wp2
    go_ret
    exact ⟨by rw [HR.out]; rfl, Below.refl _ _⟩
  · have t1 : decide (s < 0) = false := decide_eq_false h1
    by_cases h2 : (norm.length : Int) ≤ s
    · have t2 : decide ((norm.length : Int) ≤ s) = true := decide_eq_true h2
      have HR := Aside0.mk (show badS norm s = true by unfold badS; rw [t1, t2]; rfl)
      clear hg hC h1 h2
      go_enter Try.func34, Try.ntmps34
      go_wp2
      go_ret
      exact ⟨by rw [HR.out]; rfl, Below.refl _ _⟩
    · have t2 : decide ((norm.length : Int) ≤ s) = false := decide_eq_false h2
      obtain ⟨ad, e, hc⟩ := Kd.at_int hC s (by omega) (by omega)
      have hrd : rd norm s = norm.getD s.toNat 0 := rfl
      rw [hrd] at hc
      have HR := Aside0.mk (show badS norm s = (norm.getD s.toNat 0 == 0) by unfold badS; rw [t1, t2]; rfl)
      generalize norm.getD s.toNat 0 = x at hc HR
      have p1 : (0 ≤ s) = True := eq_true (by omega)
      have p2 : (s < (norm.length : Int)) = True := eq_true (by omega)
      subst e
      clear hg hC h1 h2 hrd
      go_enter Try.func34, Try.ntmps34
      go_wp2
      go_ret
      exact ⟨by rw [HR.out]; rfl, Below.refl _ _⟩
set_option maxHeartbeats 4000000 in
set_option maxRecDepth 100000 in
theorem index_ok (gn : Nat) (A0 A1 : Option Addr) (c0 c1 : Nat) (norm l : List Int) (w : World) (hg : w.heap[gn]? = some (.cells #[.slice A0 norm.length c0] 22 (0, 0))) (hC : Kd.C (Kd.int .i64) w A0 norm.length norm) (hL : Kd.C (Kd.int .i64) w A1 l.length l) (hn : l.length ≤ 1073741824) :
    Calls Try.prog 46 #[.slice A1 l.length c1, .func (.func 34) #[] #[.pointer (some ⟨gn, 0, none⟩)]] w fun e w' => ∃ v : Int, e = .returned (.int .i64 v) ∧ decide (0 ≤ v) = l.any (badS norm) ∧ Below w.heap.size w w' := by
  have HG := Aside0.mk hg
  have HC := Aside0.mk hC
  have HL := Aside0.mk hL
  have HN := Aside0.mk hn
  clear hg hC hL hn
  go_enter Try.func46, Try.ntmps46
  go_wp2
  go_loopg [8] l.length (fun q v8 w' => ∃ (L : Int) (i : Nat), v8 = .int .i64 L ∧ Aside0 (L = (i : Int) ∧ i + q = l.length ∧ (l.drop i).any (badS norm) = l.any (badS norm)) ∧ Aside0 (Below w.heap.size w w'))
  case atStart => exact ⟨0, 0, rfl, ⟨rfl, by omega, rfl⟩, ⟨Below.refl _ _⟩⟩
  case round =>
    obtain ⟨L, i, rfl, HI, B⟩ := hrel
    cases gk with
    | zero =>
      have t1 : decide (L < (l.length : Int)) = false := decide_eq_false (by have := HI.out; omega)
      go_wp2
      go_ret
      refine ⟨-1, rfl, ?_, B.out⟩
      rw [← HI.out.2.2, List.drop_eq_nil_of_le (by have := HI.out; omega)]
      rfl
    | succ q =>
      have t1 : decide (L < (l.length : Int)) = true := decide_eq_true (by have := HI.out; omega)
      have p1 : (0 ≤ L) = True := eq_true (by have := HI.out; omega)
      have q1 : (L < (l.length : Int)) = True := eq_true (by have := HI.out; omega)
      obtain ⟨ad, e_, hx⟩ := Kd.at_int (Kd.C_below HL.out B.out) L (by have := HI.out; omega) (by have := HI.out; omega)
      obtain ⟨x, hxe⟩ : ∃ x, rd l L = x := ⟨_, rfl⟩
      rw [hxe] at hx
      have HD := Aside0.mk (show l.drop i = x :: l.drop (i + 1) by
        have hl : i < l.length := by have := HI.out; omega
        rw [List.drop_eq_getElem_cons hl]
        congr 1
        rw [← hxe, HI.out.1, rd_nat, List.getD_eq_getElem?_getD, List.getElem?_eq_getElem hl]
        rfl)
      have HG1 := Aside0.mk (blk_below HG.out B.out)
      have HC1 := Aside0.mk (Kd.C_below HC.out B.out)
      subst e_
      obtain ⟨bb, hbb⟩ : ∃ bb, badS norm x = bb := ⟨_, rfl⟩
      have HBB := Aside0.mk hbb
      clear hxe hbb
      cases bb with
      | true =>
        go_wp2_with (first
          | ((with_reducible refine gate_dst (N := 16) rfl ?_); refine goesV_ (some 16) rfl rfl Try.func34 (by kernel_rfl) rfl rfl rfl #[.int .i64 x, .pointer (some ⟨gn, 0, none⟩)] (by simp [go_sem]) ?_; (with_reducible refine (bad_ok gn A0 c0 norm x _ HG1.out HC1.out).mono ?_); rintro e w7 ⟨rfl, hB⟩; refine ⟨_, rfl, ?_⟩; rw [HBB.out]; have B7 := Aside0.mk (below_step B.out hB); clear hB))
        go_ret
        refine ⟨L, rfl, ?_, B7.out⟩
        rw [← HI.out.2.2, HD.out, List.any_cons, HBB.out]
        exact decide_eq_true (by have := HI.out; omega)
      | false =>
        go_wp2_with (first
          | ((with_reducible refine gate_dst (N := 16) rfl ?_); refine goesV_ (some 16) rfl rfl Try.func34 (by kernel_rfl) rfl rfl rfl #[.int .i64 x, .pointer (some ⟨gn, 0, none⟩)] (by simp [go_sem]) ?_; (with_reducible refine (bad_ok gn A0 c0 norm x _ HG1.out HC1.out).mono ?_); rintro e w7 ⟨rfl, hB⟩; refine ⟨_, rfl, ?_⟩; rw [HBB.out]; have B7 := Aside0.mk (below_step B.out hB); clear hB))
        go_roundg q
        case measure => omega
        case rel =>
          refine ⟨_, i + 1, rfl, ⟨by have := HI.out; have := HN.out; rw [w64 (by omega) (by omega)]; omega, by have := HI.out; omega, ?_⟩, B7⟩
          rw [← HI.out.2.2, HD.out, List.any_cons, HBB.out]
          rfl
set_option maxHeartbeats 4000000 in
set_option maxRecDepth 100000 in
theorem contains_ok (gn : Nat) (A0 A1 : Option Addr) (c0 c1 : Nat) (norm l : List Int) (w : World) (hg : w.heap[gn]? = some (.cells #[.slice A0 norm.length c0] 22 (0, 0))) (hC : Kd.C (Kd.int .i64) w A0 norm.length norm) (hL : Kd.C (Kd.int .i64) w A1 l.length l) (hn : l.length ≤ 1073741824) :
    Calls Try.prog 33 #[.slice A1 l.length c1, .func (.func 34) #[] #[.pointer (some ⟨gn, 0, none⟩)]] w fun e w' => e = .returned (.bool (l.any (badS norm))) ∧ Below w.heap.size w w' := by
  have HG := Aside0.mk hg
  have HC := Aside0.mk hC
  have HL := Aside0.mk hL
  clear hg hC hL
  go_enter Try.func33, Try.ntmps33
  go_wp2_with (first
    | (go_at_call 46; (with_reducible refine (index_ok gn A0 A1 c0 c1 norm l _ HG.out HC.out HL.out hn).mono ?_); rintro e w7 ⟨v, rfl, hv, hB⟩; have B7 := Aside0.mk hB; have HV := Aside0.mk hv; clear hB hv))
  rw [HV.out]
  go_ret
  exact ⟨rfl, B7.out⟩
end Go.Proofs.Ytoondlhlcmjniaa.Hd
