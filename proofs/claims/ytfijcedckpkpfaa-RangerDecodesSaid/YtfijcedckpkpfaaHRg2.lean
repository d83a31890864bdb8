/- slices.ContainsFunc with ranger's bad; walked by hand. -/
import Derived.Test.YtfijcedckpkpfaaHRg
set_option linter.unusedVariables false
set_option linter.unusedSimpArgs false
set_option linter.unusedSectionVars false
namespace Go.Proofs.Ytfijcedckpkpfaa.Hd
open Go.RowKit Go.Proofs.YtfijcedckpkpfaaW.PrintWords Go.Proofs.YtfijcedckpkpfaaW.PrintLast Go.Proofs.YtfijcedckpkpfaaW.PrintMore Go.Proofs.Ytfijcedckpkpfaa.Hw Go.Proofs.Ytfijcedckpkpfaa.Com Go.Proofs.Ytfijcedckpkpfaa.Rn Go.Proofs.Ytfijcedckpkpfaa.P
attribute [local go_sem] max2_int min2_int max_two min_two max_three min_three max_four min_four
def badP (x : Int) : Bool := decide (x < 1 ∨ 2048 ≤ x)
theorem bad_f (x : Int) : ranger_bad.f x = some (badP x) := by
  unfold ranger_bad.f badP
  by_cases h : x < 1
  · rw [if_pos h, decide_eq_true (Or.inl h)]
  · rw [if_neg h]
    congr 1
    exact decide_eq_decide.2 ⟨fun e => Or.inr e, fun e => Or.elim e (fun h' => absurd h' h) id⟩
/-- The first place from one on. -/
def idxF : List Int → Nat → Int
  | [], _ => -1
  | x :: t, i => if badP x then (i : Int) else idxF t (i + 1)
theorem idxF_any (l : List Int) : ∀ i, decide (idxF l i ≥ 0) = l.any badP := by
  induction l with
  | nil => intro i; rfl
  | cons x t ih =>
    intro i
    rw [idxF, List.any_cons]
    cases badP x with
    | false => rw [if_neg (by decide), ih]; rfl
    | true => rw [if_pos rfl, decide_eq_true (by omega)]; rfl
set_option maxHeartbeats 4000000 in
set_option maxRecDepth 100000 in
theorem index_calls (A0 : Option Addr) (c0 : Nat) (l : List Int) (w : World) (hr : Kd.C (Kd.int .i64) w A0 l.length l) (hl : l.length ≤ 1099511627776) :
    Calls Try.prog 30 #[.slice A0 l.length c0, .func (.func 18) #[] #[]] w fun e w' => e = .returned (.int .i64 (idxF l 0)) ∧ Below w.heap.size w w' := by
  have HR := Aside0.mk hr
  have HLL := Aside0.mk hl
  clear hr hl
  go_enter Try.func30, Try.ntmps30
  go_wp2
  go_loopg [8] l.length (fun q v8 w' => ∃ (L : Int) (m : Nat), v8 = .int .i64 L ∧ Aside0 (L = (m : Int) ∧ m + q = l.length ∧ idxF l 0 = idxF (l.drop m) m) ∧ Aside0 (Below w.heap.size w w'))
  case atStart => exact ⟨0, 0, rfl, ⟨rfl, by omega, rfl⟩, ⟨Below.refl _ _⟩⟩
  case round =>
    obtain ⟨L, m, rfl, HA, B1⟩ := hrel
    cases gk with
    | zero =>
      have t1 : decide (L < (l.length : Int)) = false := decide_eq_false (by have := HA.out; omega)
      have E := Aside0.mk (show idxF l 0 = -1 by
        have := HA.out
        rw [this.2.2, List.drop_eq_nil_of_le (by omega)]; rfl)
      go_wp2
      go_ret
      exact ⟨by rw [E.out]; rfl, B1.out⟩
    | succ q =>
      have t1 : decide (L < (l.length : Int)) = true := decide_eq_true (by have := HA.out; omega)
      have p1 : (0 ≤ L) = True := eq_true (by have := HA.out; omega)
      have q1 : (L < (l.length : Int)) = True := eq_true (by have := HA.out; omega)
      obtain ⟨ad, e_, hc⟩ := Kd.at_int HR.out L (by have := HA.out; omega) (by have := HA.out; omega)
      subst e_
      have hc1 := (B1.out.cell (World.block_lt_of_cell? w _ hc)).trans hc
      clear hc
      have hm : m < l.length := by have := HA.out; omega
      have hd : l.drop m = rd l L :: l.drop (m + 1) := by
        have e : rd l L = l[m] := by rw [HA.out.1]; exact rd_some (List.getElem?_eq_getElem hm)
        rw [List.drop_eq_getElem_cons hm, e]
      obtain ⟨x, hx⟩ : ∃ x, rd l L = x := ⟨_, rfl⟩
      rw [hx] at hc1 hd
      have BF := Aside0.mk (bad_f x)
      cases hb : badP x with
      | true =>
        rw [hb] at BF
        have E := Aside0.mk (show idxF l 0 = L by
          rw [HA.out.2.2, hd, idxF, if_pos hb, HA.out.1])
        clear hd hx hb hm
        go_wp2_with (first
          | (go_at_call 18; (with_reducible refine (ranger_bad.calls x _ _ BF.out).mono ?_); rintro e w1 ⟨rfl, n1, rfl⟩))
        go_ret
        exact ⟨by rw [E.out]; rfl, pw_below_drewN B1.out _⟩
      | false =>
        rw [hb] at BF
        have E := Aside0.mk (show idxF l 0 = idxF (l.drop (m + 1)) (m + 1) by
          rw [HA.out.2.2, hd, idxF, hb, if_neg (by decide)])
        clear hd hx hb hm
        go_wp2_with (first
          | (go_at_call 18; (with_reducible refine (ranger_bad.calls x _ _ BF.out).mono ?_); rintro e w1 ⟨rfl, n1, rfl⟩))
        go_roundg q
        case measure => omega
        case rel =>
          refine ⟨wrap64 (L + 1), m + 1, rfl, ⟨?_, by have := HA.out; omega, E.out⟩, ⟨pw_below_drewN B1.out _⟩⟩
          have := HA.out; have := HLL.out; rw [w64 (by omega) (by omega)]; omega
set_option maxHeartbeats 4000000 in
set_option maxRecDepth 100000 in
theorem contains_calls (A0 : Option Addr) (c0 : Nat) (l : List Int) (w : World) (hr : Kd.C (Kd.int .i64) w A0 l.length l) (hl : l.length ≤ 1099511627776) :
    Calls Try.prog 17 #[.slice A0 l.length c0, .func (.func 18) #[] #[]] w fun e w' => e = .returned (.bool (l.any badP)) ∧ Below w.heap.size w w' := by
  have HR := Aside0.mk hr
  have HLL := Aside0.mk hl
  have E := Aside0.mk (idxF_any l 0)
  clear hr hl
  go_enter Try.func17, Try.ntmps17
  go_wp2_with (first
    | (go_at_call 30; (with_reducible refine (index_calls _ _ l _ HR.out HLL.out).mono ?_); rintro e w1 ⟨rfl, hB⟩; have B1 := Aside0.mk hB; clear hB))
  go_ret
  refine ⟨?_, B1.out⟩
  rw [← E.out]
  rfl
end Go.Proofs.Ytfijcedckpkpfaa.Hd
