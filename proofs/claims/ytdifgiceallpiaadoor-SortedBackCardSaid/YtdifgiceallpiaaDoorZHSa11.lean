/- suffix: Sort, walked by hand. -/
import Derived.Test.YtdifgiceallpiaaDoorZHSa10
import Derived.Test.YtdifgiceallpiaaDoorZSaSrt
set_option linter.unusedVariables false
set_option linter.unusedSimpArgs false
set_option linter.unusedSectionVars false
namespace Go.Proofs.YtdifgiceallpiaaDoor.Hd
open Go Go.RowKit Go.Proofs.YtdifgiceallpiaaDoorW.PrintWords Go.Proofs.YtdifgiceallpiaaDoorW.PrintLast Go.Proofs.YtdifgiceallpiaaDoorW.PrintMore Go.Proofs.YtdifgiceallpiaaDoor.Hw Go.Proofs.YtdifgiceallpiaaDoor.Com Go.Proofs.YtdifgiceallpiaaDoor.Cn Go.Proofs.YtdifgiceallpiaaDoor.P Go.Proofs.YtdifgiceallpiaaDoor.Sais
attribute [local go_sem] max2_int min2_int max_two min_two max_three min_three max_four min_four
set_option maxHeartbeats 4000000 in
set_option maxRecDepth 100000 in
theorem sort_ok (x : ByteArray) (w : World) (hx : x.size ≤ 1073741824) : Calls Tryd.prog 21 #[.string x] w fun e w' => ∃ v : Value, e = .returned v ∧ Kd.Q (Kd.int .i64) 3 w' w.heap.size (fun _ => True) v (iN (srtN (nb x))) ∧ Below w.heap.size w w' := by
  by_cases h : 24 < x.size
  · have t1 : decide ((24 : Int) < (x.size : Int)) = true := decide_eq_true (by omega)
    have t2 : decide (24 < x.size) = true := decide_eq_true h
    have HX := Aside0.mk hx
    clear hx h
    go_enter Tryd.func21, Tryd.ntmps21
    go_wp2_with (first
      | (go_at_call 47; with_reducible refine (quick_ok x w HX.out).mono ?_; rintro e w1 ⟨v, sa, rfl, hQ, hS, hB⟩; have R := Aside0.mk (And.intro hQ (And.intro hS hB)); clear hQ hS hB))
    go_ret
    obtain ⟨hQ, hS, hB⟩ := R.out
    rw [← nb_length] at hS
    rw [srt_is (sa_srt hS)] at hQ
    exact ⟨v, rfl, hQ, hB⟩
  · have t1 : decide ((24 : Int) < (x.size : Int)) = false := decide_eq_false (by omega)
    have t2 : decide (24 < x.size) = false := decide_eq_false h
    have HX := Aside0.mk h
    clear hx h
    go_enter Tryd.func21, Tryd.ntmps21
    go_wp2_with (first
      | (go_at_call 48; with_reducible refine (doubled_ok x w (by have := HX.out; omega)).mono ?_; rintro e w1 ⟨g, sa, rfl, hG, hK, hS, hB⟩; have R := Aside0.mk (And.intro hG (And.intro hK (And.intro hS hB))); clear hG hK hS hB))
    go_ret
    obtain ⟨hG, hK, hS, hB⟩ := R.out
    have hl : (iN sa).length = x.size := by rw [iN_len, hS.p.len, nb_length]
    have hR := hK.R hG (by rw [hl]; have := HX.out; simp [maxLen]; omega) (fun _ => True) trivial
    rw [hl, srt_is hS] at hR
    exact ⟨_, rfl, Kd.Q_of_R hR, hB⟩
end Go.Proofs.YtdifgiceallpiaaDoor.Hd
