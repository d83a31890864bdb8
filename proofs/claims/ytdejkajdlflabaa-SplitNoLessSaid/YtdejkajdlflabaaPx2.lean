-- Laid by this session's driver (wip/tools/myprint.py) over the kit's print program.
import Derived.Test.YtdejkajdlflabaaPx0
import Derived.Test.YtdejkajdlflabaaHLogB
namespace Go.Proofs.Ytdejkajdlflabaa.Pa
end Go.Proofs.Ytdejkajdlflabaa.Pa
namespace Go.Proofs.Ytdejkajdlflabaa.Hd
end Go.Proofs.Ytdejkajdlflabaa.Hd
namespace Go.Proofs.Ytdejkajdlflabaa.P
open Go.RowKit Go.Proofs.Ytdejkajdlflabaa.Pa Go.Proofs.Ytdejkajdlflabaa.Hd Go.Proofs.YtdejkajdlflabaaW.PrintWords Go.Proofs.YtdejkajdlflabaaW.PrintLast Go.Proofs.YtdejkajdlflabaaW.PrintMore
attribute [local go_sem] max2_int min2_int max_two min_two max_three min_three max_four min_four   -- for this text's walks alone
set_option linter.unusedVariables false
set_option linter.unusedSimpArgs false

/-! ### split_weighed: function 18 -/
def split_weighed.f (k : Nat) (a0 : Int) : Option (Int) := if a0 = 0 then (some 0) else ((ilog_Log.f k a0).bind fun bt101 => (some (wrap64 (a0 * bt101.1))))
theorem split_weighed.mono : ∀ a0 k, LeO (split_weighed.f k a0) (split_weighed.f (k + 1) a0) := by
  intro a0 k
  unfold split_weighed.f
  repeat' first
      | (with_reducible exact ilog_Log.mono _ _)
      | (with_reducible exact LeO.refl _)
      | (with_reducible exact LeO.none _)
      | (with_reducible refine LeO.ite ?_ ?_)
      | (with_reducible refine LeO.bind ?_ (fun _ => ?_))
      | exact ilog_Log.mono _ _
      | exact LeO.none _
      | refine LeO.ite ?_ ?_
      | refine LeO.bind ?_ (fun _ => ?_)
set_option maxHeartbeats 8000000 in
set_option maxRecDepth 100000 in
theorem split_weighed.calls (k : Nat) (a0 : Int) (r : Int) (w : World) (h : split_weighed.f k a0 = some r) :
    Calls Try.prog 18 #[.int .i64 a0] w fun e w' => e = .returned (.int .i64 r) ∧ Drawn0 w w' := by
  have H : (if a0 = 0 then (some 0) else ((ilog_Log.f k a0).bind fun bt101 => (some (wrap64 (a0 * bt101.1))))) = some r := h
  clear h
  by_cases c2 : a0 = 0
  · rw [if_pos c2] at H
    have c2b0 : (a0 == 0) = true := beq_iff_eq.mpr c2
    have c2b1 : (a0 != 0) = false := bne_eq_false_iff_eq.mpr c2
    clear c2
    obtain rfl := Option.some.inj H
    go_enter Try.func18, Try.ntmps18
    go_wp2
    go_ret
    exact ⟨by first | rfl | (simp; done) | (simp [*]; done), by repeat (first | exact Drawn0.refl _ | apply Drawn0.step)⟩
  · rw [if_neg c2] at H
    have c2b0 : (a0 == 0) = false := beq_eq_false_iff_ne.mpr c2
    have c2b1 : (a0 != 0) = true := bne_iff_ne.mpr c2
    replace H := Option.bind_eq_some_iff.mp H
    obtain ⟨⟨t101, t102⟩, A30, H⟩ := H
    replace H : (some (wrap64 (a0 * t101))) = some r := H
    have A3 := Aside0.mk A30
    clear A30
    obtain rfl := Option.some.inj H
    go_enter Try.func18, Try.ntmps18
    go_wp2_with (first | ((with_reducible refine gate_callee (f := 20) rfl ?_); refine goesL_ (some 9) rfl rfl Try.func20 (by kernel_rfl) rfl #[.int .i64 a0] rfl (by (try simp only [List.map_toArray, List.map_cons, List.map_nil]); first | done | rfl | (simp only [List.length_drop, List.length_take]; rfl)) ?_; (with_reducible refine (ilog_Log.calls k a0 t101 t102 _ A3.out).mono ?_); rintro e w' ⟨rfl, ⟨nd, rfl⟩⟩; refine ⟨_, rfl, ?_⟩))
    go_ret
    exact ⟨by first | rfl | (simp; done) | (simp [*]; done), by repeat (first | exact Drawn0.refl _ | apply Drawn0.step)⟩

end Go.Proofs.Ytdejkajdlflabaa.P
