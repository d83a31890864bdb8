/- tans: the greatest number of a row (slices.Max), walked by hand. -/
import Derived.Test.YtoondlhlcmjniaaZPx0
import Derived.Test.YtoondlhlcmjniaaZHw
import Derived.Test.YtoondlhlcmjniaaZCn
import Derived.Test.YtoondlhlcmjniaaZCom
set_option linter.unusedVariables false
set_option linter.unusedSimpArgs false
set_option linter.unusedSectionVars false
namespace Go.Proofs.Ytoondlhlcmjniaa.Hd
open Go Go.RowKit Go.Proofs.YtoondlhlcmjniaaW.PrintWords Go.Proofs.YtoondlhlcmjniaaW.PrintLast Go.Proofs.YtoondlhlcmjniaaW.PrintMore Go.Proofs.Ytoondlhlcmjniaa.Hw Go.Proofs.Ytoondlhlcmjniaa.Com Go.Proofs.Ytoondlhlcmjniaa.Cn
attribute [local go_sem] max2_int min2_int max_two min_two max_three min_three max_four min_four
/-- The greatest number of a row. -/
def maxI (m : Int) : List Int → Int
  | [] => m
  | x :: l => maxI (max m x) l
def maxL (l : List Int) : Int := maxI (l.getD 0 0) (l.drop 1)
set_option maxHeartbeats 4000000 in
set_option maxRecDepth 100000 in
theorem max_ok (A0 : Option Addr) (c0 : Nat) (l : List Int) (w : World) (hr : Kd.C (Kd.int .i64) w A0 l.length l) (hn : l.length ≤ 1073741824) (h0 : 0 < l.length) :
    Calls Try.prog 42 #[.slice A0 l.length c0] w fun e w' => e = .returned (.int .i64 (maxL l)) ∧ Below w.heap.size w w' := by
  have HR := Aside0.mk hr
  have HN := Aside0.mk (And.intro hn h0)
  have t0 : decide ((l.length : Int) < 1) = false := decide_eq_false (by omega)
  have t0b : decide (l.length < 1) = false := decide_eq_false (by omega)
  have p0 : (0 < l.length) = True := eq_true h0
  have p0b : ((0 : Int) < (l.length : Int)) = True := eq_true (by omega)
  obtain ⟨ad, e_, hc⟩ := Kd.at_int hr 0 (by omega) (by omega)
  subst e_
  obtain ⟨x0, hx0⟩ : ∃ x, rd l 0 = x := ⟨_, rfl⟩
  rw [hx0] at hc
  replace hc : w.cell? ad = some (.int .i64 x0) := by simpa [Addr.add] using hc
  have X0 := Aside0.mk (show l.getD 0 0 = x0 by rw [← hx0]; rfl)
  clear hr hn h0 hx0
  go_enter Try.func42, Try.ntmps42
  go_wp2
  go_loopg [3, 4] (l.length - 1) (fun q v3 v4 w' => ∃ (M I : Int) (i : Nat), v3 = .int .i64 M ∧ v4 = .int .i64 I ∧ Aside0 (I = (i : Int) ∧ i + q = l.length ∧ 1 ≤ i ∧ maxI M (l.drop i) = maxL l) ∧ Aside0 (w' = w))
  case atStart => exact ⟨x0, 1, 1, rfl, rfl, ⟨rfl, by have := HN.out; omega, Nat.le_refl _, by unfold maxL; rw [X0.out]⟩, ⟨rfl⟩⟩
  case round =>
    obtain ⟨M, I, i, rfl, rfl, HI, HW⟩ := hrel
    obtain rfl := HW.out
    cases gk with
    | zero =>
      have t1 : decide (I < (l.length : Int)) = false := decide_eq_false (by have := HI.out; omega)
      go_wp2
      go_ret
      refine ⟨?_, Below.refl _ _⟩
      have h := HI.out.2.2.2
      rw [List.drop_eq_nil_of_le (by have := HI.out; omega)] at h
      rw [← h]
      rfl
    | succ q =>
      have t1 : decide (I < (l.length : Int)) = true := decide_eq_true (by have := HI.out; omega)
      have p1 : (0 ≤ I) = True := eq_true (by have := HI.out; omega)
      have q1 : (I < (l.length : Int)) = True := eq_true (by have := HI.out; omega)
      obtain ⟨ad', e_, hx⟩ := Kd.at_int HR.out I (by have := HI.out; omega) (by have := HI.out; omega)
      obtain rfl := Option.some.inj e_
      obtain ⟨x, hxe⟩ : ∃ x, rd l I = x := ⟨_, rfl⟩
      rw [hxe] at hx
      have hd : l.drop i = x :: l.drop (i + 1) := by
        have hl : i < l.length := by have := HI.out; omega
        rw [List.drop_eq_getElem_cons hl]
        congr 1
        rw [← hxe, HI.out.1, rd_nat, List.getD_eq_getElem?_getD, List.getElem?_eq_getElem hl]
        rfl
      have HD := Aside0.mk hd
      clear hd hxe
      by_cases hm : x ≤ M
      · have EM := Aside0.mk (show max M x = M by omega)
        have m1 : (x ≤ M) = True := eq_true hm
        have m2 : decide (x ≤ M) = true := decide_eq_true hm
        have m3 : decide (M < x) = false := decide_eq_false (by omega)
        have m4 : (M < x) = False := eq_false (by omega)
        clear hm
        go_wp2
        go_roundg q
        case measure => omega
        case rel =>
          refine ⟨_, _, i + 1, rfl, rfl, ⟨by have := HI.out; have := HN.out; rw [w64 (by omega) (by omega)]; omega, by have := HI.out; omega, by omega, ?_⟩, ⟨rfl⟩⟩
          rw [← HI.out.2.2.2, HD.out]
          show _ = maxI (max M x) (l.drop (i + 1))
          rw [EM.out]
      · have EM := Aside0.mk (show max M x = x by omega)
        have m1 : (x ≤ M) = False := eq_false hm
        have m2 : decide (x ≤ M) = false := decide_eq_false hm
        have m3 : decide (M < x) = true := decide_eq_true (by omega)
        have m4 : (M < x) = True := eq_true (by omega)
        clear hm
        go_wp2
        go_roundg q
        case measure => omega
        case rel =>
          refine ⟨_, _, i + 1, rfl, rfl, ⟨by have := HI.out; have := HN.out; rw [w64 (by omega) (by omega)]; omega, by have := HI.out; omega, by omega, ?_⟩, ⟨rfl⟩⟩
          rw [← HI.out.2.2.2, HD.out]
          show _ = maxI (max M x) (l.drop (i + 1))
          rw [EM.out]
def slices_Max_int_int.f (l : List Int) : Option Int := if 0 < l.length ∧ l.length ≤ 1073741824 then some (maxL l) else none
theorem slices_Max_int_int.calls (A0 : Option Addr) (c0 : Nat) (l0 : List Int) (r : Int) (w : World) (hr0 : Kd.C (Kd.int .i64) w A0 l0.length l0) (hc0 : l0.length ≤ c0) (h : slices_Max_int_int.f l0 = some r) :
    Calls Try.prog 42 #[.slice A0 l0.length c0] w fun e w' => e = .returned (.int .i64 r) ∧ Below w.heap.size w w' := by
  unfold slices_Max_int_int.f at h
  split at h
  · rename_i hc
    obtain rfl := Option.some.inj h
    exact max_ok A0 c0 l0 w hr0 hc.2 hc.1
  · cases h
end Go.Proofs.Ytoondlhlcmjniaa.Hd
