-- Laid by this session's driver (wip/tools/myprint.py) over the kit's print program.
import Derived.Test.YtbeoacjooaioaaaPx0
import Derived.Test.YtbeoacjooaioaaaPx2
import Derived.Test.YtbeoacjooaioaaaPx3
namespace Go.Proofs.Ytbeoacjooaioaaa.Hd
end Go.Proofs.Ytbeoacjooaioaaa.Hd
namespace Go.Proofs.Ytbeoacjooaioaaa.P
open Go.RowKit Go.Proofs.Ytbeoacjooaioaaa.Hd Go.Proofs.YtbeoacjooaioaaaW.PrintWords Go.Proofs.YtbeoacjooaioaaaW.PrintLast Go.Proofs.YtbeoacjooaioaaaW.PrintMore
attribute [local go_sem] max2_int min2_int max_two min_two max_three min_three max_four min_four   -- for this text's walks alone
set_option linter.unusedVariables false
set_option linter.unusedSimpArgs false

/-! ### gladstonelaw08_CanonTurns: function 5 -/
def gladstonelaw08_CanonTurns.f (k : Nat) (a0 : Int) (a1 : Int) : Option (Bool) := if 0 ≤ (IntKind.u64.wrap (wrap64 (Int.tmod a1 33))) then ((canon_Turned.f k (Go.bits .and .i64 (wrap64 (a0)) (wrap64 ((shl .i64 1 (IntKind.u64.wrap (wrap64 (Int.tmod a1 33)))) - 1))) (wrap64 (Int.tmod a1 33))).bind fun t195 => ((canon_Turned.f k t195 (wrap64 (Int.tmod a1 33))).bind fun t196 => (if t196 = (Go.bits .and .i64 (wrap64 (a0)) (wrap64 ((shl .i64 1 (IntKind.u64.wrap (wrap64 (Int.tmod a1 33)))) - 1))) then ((gladstonelaw08_awake.f k).bind fun t197 => (some t197)) else (some false)))) else (none)
theorem gladstonelaw08_CanonTurns.mono : ∀ a0 a1 k, LeO (gladstonelaw08_CanonTurns.f k a0 a1) (gladstonelaw08_CanonTurns.f (k + 1) a0 a1) := by
  intro a0 a1 k
  unfold gladstonelaw08_CanonTurns.f
  repeat' first
      | (with_reducible exact canon_Turned.mono _ _ _)
      | (with_reducible exact gladstonelaw08_awake.mono _)
      | (with_reducible exact LeO.refl _)
      | (with_reducible exact LeO.none _)
      | (with_reducible refine LeO.ite ?_ ?_)
      | (with_reducible refine LeO.bind ?_ (fun _ => ?_))
      | exact canon_Turned.mono _ _ _
      | exact gladstonelaw08_awake.mono _
      | exact LeO.none _
      | refine LeO.ite ?_ ?_
      | refine LeO.bind ?_ (fun _ => ?_)
set_option maxHeartbeats 8000000 in
set_option maxRecDepth 100000 in
theorem gladstonelaw08_CanonTurns.calls (k : Nat) (a0 : Int) (a1 : Int) (r : Bool) (w : World) (h : gladstonelaw08_CanonTurns.f k a0 a1 = some r) :
    Calls Try.prog 5 #[.int .u32 a0, .int .u8 a1] w fun e w' => e = .returned (.bool r) ∧ Below w.heap.size w w' := by
  have HB := Aside0.mk (Below.refl w.heap.size w)
  have H : (if 0 ≤ (IntKind.u64.wrap (wrap64 (Int.tmod a1 33))) then ((canon_Turned.f k (Go.bits .and .i64 (wrap64 (a0)) (wrap64 ((shl .i64 1 (IntKind.u64.wrap (wrap64 (Int.tmod a1 33)))) - 1))) (wrap64 (Int.tmod a1 33))).bind fun t195 => ((canon_Turned.f k t195 (wrap64 (Int.tmod a1 33))).bind fun t196 => (if t196 = (Go.bits .and .i64 (wrap64 (a0)) (wrap64 ((shl .i64 1 (IntKind.u64.wrap (wrap64 (Int.tmod a1 33)))) - 1))) then ((gladstonelaw08_awake.f k).bind fun t197 => (some t197)) else (some false)))) else (none)) = some r := h
  clear h
  obtain ⟨ji3, hji3⟩ : ∃ j_ : Int, (IntKind.u64.wrap (wrap64 (Int.tmod a1 33))) = j_ := ⟨_, rfl⟩
  replace H : (if 0 ≤ (ji3) then ((canon_Turned.f k (Go.bits .and .i64 (wrap64 (a0)) (wrap64 ((shl .i64 1 (ji3)) - 1))) (wrap64 (Int.tmod a1 33))).bind fun t195 => ((canon_Turned.f k t195 (wrap64 (Int.tmod a1 33))).bind fun t196 => (if t196 = (Go.bits .and .i64 (wrap64 (a0)) (wrap64 ((shl .i64 1 (ji3)) - 1))) then ((gladstonelaw08_awake.f k).bind fun t197 => (some t197)) else (some false)))) else (none)) = some r := by first | (rw [hji3] at H; exact H) | (simp only [hji3] at H ⊢; exact H)
  by_cases c4 : 0 ≤ (ji3)
  · rw [if_pos c4] at H
    have c4b0 := eq_true c4
    have c4b1 : decide (0 ≤ (ji3)) = true := decide_eq_true c4
    clear c4
    obtain ⟨ji5, hji5⟩ : ∃ j_ : Int, (shl .i64 1 (ji3)) = j_ := ⟨_, rfl⟩
    replace H : ((canon_Turned.f k (Go.bits .and .i64 (wrap64 (a0)) (wrap64 ((ji5) - 1))) (wrap64 (Int.tmod a1 33))).bind fun t195 => ((canon_Turned.f k t195 (wrap64 (Int.tmod a1 33))).bind fun t196 => (if t196 = (Go.bits .and .i64 (wrap64 (a0)) (wrap64 ((ji5) - 1))) then ((gladstonelaw08_awake.f k).bind fun t197 => (some t197)) else (some false)))) = some r := by first | (rw [hji5] at H; exact H) | (simp only [hji5] at H ⊢; exact H)
    have hji5_ : (IntKind.i64.wrap (1 * 2 ^ min (ji3).toNat 64)) = ji5 := hji5
    have hji5z : (ji3) ≤ 64 → (IntKind.i64.wrap (1 * 2 ^ (ji3).toNat)) = ji5 := shl_small hji5
    have hji5u : (IntKind.i64.wrap (2 ^ min (ji3).toNat 64)) = ji5 := by have h_ := hji5_; rw [Int.one_mul] at h_; exact h_
    have hji5v : (ji3) ≤ 64 → (IntKind.i64.wrap (2 ^ (ji3).toNat)) = ji5 := fun hle_ => by have h_ := hji5z hle_; rw [Int.one_mul] at h_; exact h_
    have hji5y : (wrap64 (1 * 2 ^ min (ji3).toNat 64)) = ji5 := (i64_w _).symm.trans hji5_
    have hji5x : (ji3) ≤ 64 → (wrap64 (1 * 2 ^ (ji3).toNat)) = ji5 := fun h_ => (i64_w _).symm.trans (hji5z h_)
    replace H := Option.bind_eq_some_iff.mp H
    obtain ⟨t195, A60, H⟩ := H
    replace H : ((canon_Turned.f k t195 (wrap64 (Int.tmod a1 33))).bind fun t196 => (if t196 = (Go.bits .and .i64 (wrap64 (a0)) (wrap64 ((ji5) - 1))) then ((gladstonelaw08_awake.f k).bind fun t197 => (some t197)) else (some false))) = some r := H
    have A6 := Aside0.mk A60
    clear A60
    replace H := Option.bind_eq_some_iff.mp H
    obtain ⟨t196, A70, H⟩ := H
    replace H : (if t196 = (Go.bits .and .i64 (wrap64 (a0)) (wrap64 ((ji5) - 1))) then ((gladstonelaw08_awake.f k).bind fun t197 => (some t197)) else (some false)) = some r := H
    have A7 := Aside0.mk A70
    clear A70
    by_cases c8 : t196 = (Go.bits .and .i64 (wrap64 (a0)) (wrap64 ((ji5) - 1)))
    · rw [if_pos c8] at H
      have c8b0 : (t196 == (Go.bits .and .i64 (wrap64 (a0)) (wrap64 ((ji5) - 1)))) = true := beq_iff_eq.mpr c8
      have c8b1 : (t196 != (Go.bits .and .i64 (wrap64 (a0)) (wrap64 ((ji5) - 1)))) = false := bne_eq_false_iff_eq.mpr c8
      clear c8
      replace H := Option.bind_eq_some_iff.mp H
      obtain ⟨t197, A90, H⟩ := H
      replace H : (some t197) = some r := H
      have A9 := Aside0.mk A90
      clear A90
      obtain rfl := Option.some.inj H
      go_enter Try.func5, Try.ntmps5
      go_wp2_with (first | ((with_reducible refine gate_callee (f := 12) rfl ?_); refine goesL_ (some 19) rfl rfl Try.func12 (by kernel_rfl) rfl #[.int .i64 (Go.bits .and .i64 (wrap64 (a0)) (wrap64 ((ji5) - 1))), .int .i64 (wrap64 (Int.tmod a1 33))] rfl (by (try simp only [List.map_toArray, List.map_cons, List.map_nil]); first | done | (simp only [hji5]; rfl) | rfl | (simp only [List.length_drop, List.length_take]; rfl)) ?_; (with_reducible refine (canon_Turned.calls k (Go.bits .and .i64 (wrap64 (a0)) (wrap64 ((ji5) - 1))) (wrap64 (Int.tmod a1 33)) t195 _ A6.out).mono ?_); rintro e w' ⟨rfl, ⟨nd, rfl⟩⟩; refine ⟨_, rfl, ?_⟩) | ((with_reducible refine gate_callee (f := 12) rfl ?_); refine goesL_ (some 21) rfl rfl Try.func12 (by kernel_rfl) rfl #[.int .i64 t195, .int .i64 (wrap64 (Int.tmod a1 33))] rfl (by (try simp only [List.map_toArray, List.map_cons, List.map_nil]); first | done | rfl | (simp only [List.length_drop, List.length_take]; rfl)) ?_; (with_reducible refine (canon_Turned.calls k t195 (wrap64 (Int.tmod a1 33)) t196 _ A7.out).mono ?_); rintro e w' ⟨rfl, ⟨nd, rfl⟩⟩; refine ⟨_, rfl, ?_⟩) | (go_at_call 6; (with_reducible refine (gladstonelaw08_awake.calls k  t197 _ A9.out).mono ?_); rintro e w10 ⟨rfl, hb⟩; have n0_ := Aside0.mk (below_step (by repeat (first | (with_reducible first | exact HB.out | apply below_alloc | apply pw_below_drewN | apply below_drew1) | exact HB.out)) hb); clear HB; have HB := n0_; clear n0_; (try clear hb); (try clear hb2); (try clear hk); (try clear hi)))
      go_ret
      exact ⟨by first | rfl | (simp [errW_none, errW_some] <;> rfl) | (simp only [← hji3, ← hji5]; first | rfl | (simp [errW_none, errW_some] <;> rfl)) | (simp [*, errW_none, errW_some] <;> rfl), by repeat (first | (with_reducible first | exact HB.out | apply below_alloc | apply pw_below_drewN | apply below_drew1) | exact HB.out)⟩
    · rw [if_neg c8] at H
      have c8b0 : (t196 == (Go.bits .and .i64 (wrap64 (a0)) (wrap64 ((ji5) - 1)))) = false := beq_eq_false_iff_ne.mpr c8
      have c8b1 : (t196 != (Go.bits .and .i64 (wrap64 (a0)) (wrap64 ((ji5) - 1)))) = true := bne_iff_ne.mpr c8
      obtain rfl := Option.some.inj H
      go_enter Try.func5, Try.ntmps5
      go_wp2_with (first | ((with_reducible refine gate_callee (f := 12) rfl ?_); refine goesL_ (some 19) rfl rfl Try.func12 (by kernel_rfl) rfl #[.int .i64 (Go.bits .and .i64 (wrap64 (a0)) (wrap64 ((ji5) - 1))), .int .i64 (wrap64 (Int.tmod a1 33))] rfl (by (try simp only [List.map_toArray, List.map_cons, List.map_nil]); first | done | (simp only [hji5]; rfl) | rfl | (simp only [List.length_drop, List.length_take]; rfl)) ?_; (with_reducible refine (canon_Turned.calls k (Go.bits .and .i64 (wrap64 (a0)) (wrap64 ((ji5) - 1))) (wrap64 (Int.tmod a1 33)) t195 _ A6.out).mono ?_); rintro e w' ⟨rfl, ⟨nd, rfl⟩⟩; refine ⟨_, rfl, ?_⟩) | ((with_reducible refine gate_callee (f := 12) rfl ?_); refine goesL_ (some 21) rfl rfl Try.func12 (by kernel_rfl) rfl #[.int .i64 t195, .int .i64 (wrap64 (Int.tmod a1 33))] rfl (by (try simp only [List.map_toArray, List.map_cons, List.map_nil]); first | done | rfl | (simp only [List.length_drop, List.length_take]; rfl)) ?_; (with_reducible refine (canon_Turned.calls k t195 (wrap64 (Int.tmod a1 33)) t196 _ A7.out).mono ?_); rintro e w' ⟨rfl, ⟨nd, rfl⟩⟩; refine ⟨_, rfl, ?_⟩))
      go_ret
      exact ⟨by first | rfl | (simp [errW_none, errW_some] <;> rfl) | (simp only [← hji3, ← hji5]; first | rfl | (simp [errW_none, errW_some] <;> rfl)) | (simp [*, errW_none, errW_some] <;> rfl), by repeat (first | (with_reducible first | exact HB.out | apply below_alloc | apply pw_below_drewN | apply below_drew1) | exact HB.out)⟩
  · rw [if_neg c4] at H
    exact absurd H (by simp)

/-- THE ONE PURE STATEMENT of gladstonelaw08_CanonTurns: yours. -/
def gladstonelaw08_CanonTurns.Pure : Prop := ∀ (a0 : Int) (a1 : Int), (Lit.int .u32 a0).wf = true → (Lit.int .u8 a1).wf = true → ∃ k, gladstonelaw08_CanonTurns.f k a0 a1 = some true
theorem gladstonelaw08_CanonTurns.walk (P : gladstonelaw08_CanonTurns.Pure) (a0 : Int) (a1 : Int) (w : World) (w0 : (Lit.int .u32 a0).wf = true) (w1 : (Lit.int .u8 a1).wf = true) :
    Calls Try.prog 5 #[.int .u32 a0, .int .u8 a1] w fun e w' => e = .returned (.bool true) ∧ Below w.heap.size w w' := by
  obtain ⟨k, h⟩ := P a0 a1 w0 w1
  refine (gladstonelaw08_CanonTurns.calls k a0 a1 true w h).mono ?_
  rintro e w' ⟨rfl, hd⟩
  exact ⟨rfl, hd⟩

end Go.Proofs.Ytbeoacjooaioaaa.P
