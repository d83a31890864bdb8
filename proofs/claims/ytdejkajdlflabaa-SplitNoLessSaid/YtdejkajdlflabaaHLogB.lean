/- ilog.Log, walked by hand (its text jumps back to a label): what it answers. -/
import Derived.Test.YtdejkajdlflabaaPax1
import Derived.Test.YtdejkajdlflabaaLab
namespace Go.Proofs.Ytdejkajdlflabaa.Hd
open Go.RowKit Go.Proofs.YtdejkajdlflabaaW.PrintWords Go.Proofs.YtdejkajdlflabaaW.PrintLast Go.Proofs.YtdejkajdlflabaaW.PrintMore Go.Proofs.Ytdejkajdlflabaa.Lab Go.Proofs.Ytdejkajdlflabaa.Pa
attribute [local go_sem] max2_int min2_int max_two min_two max_three min_three max_four min_four
set_option linter.unusedVariables false
set_option linter.unusedSimpArgs false

/-- So many bits behind the point: the square, and the bit that it tells. -/
def ilog_Log.go : Nat → Int → Int → Int
  | 0, _, out => out
  | m + 1, x, out =>
    if (IntKind.u64.wrap (x * x)) / 2147483648 / 4294967296 = 0 then ilog_Log.go m ((IntKind.u64.wrap (x * x)) / 2147483648) (wrap64 (out * 2))
    else ilog_Log.go m ((IntKind.u64.wrap (x * x)) / 2147483648 / 2) (Go.bits .or .i64 (wrap64 (out * 2)) 1)

def ilog_Log.f (k : Nat) (a0 : Int) : Option (Int × Int) :=
  if a0 < 1 then some (0, 2) else if a0 > 4294967295 then some (0, 2) else
  (bits_Len64.f k (IntKind.u64.wrap a0)).bind fun t => if 0 ≤ wrap64 (31 - wrap64 (t - 1)) then some (ilog_Log.go 4 (shl .u64 (IntKind.u64.wrap a0) (wrap64 (31 - wrap64 (t - 1)))) (wrap64 (t - 1)), 0) else none

theorem ilog_Log.mono : ∀ (a0 : Int) (k : Nat), LeO (ilog_Log.f k a0) (ilog_Log.f (k + 1) a0) := by
  intro a0 k
  unfold ilog_Log.f
  refine LeO.ite (LeO.refl _) (LeO.ite (LeO.refl _) (LeO.bind (bits_Len64.mono _ _) (fun _ => LeO.refl _)))

set_option maxHeartbeats 8000000 in
set_option maxRecDepth 100000 in
theorem ilog_Log.calls (k : Nat) (a0 : Int) (r1 : Int) (r2 : Int) (w : World) (h : ilog_Log.f k a0 = some (r1, r2)) :
    Calls Try.prog 20 #[.int .i64 a0] w fun e w' => e = .returned (.tuple #[.int .i64 r1, .int .i64 r2]) ∧ Drawn0 w w' := by
  unfold ilog_Log.f at h
  by_cases c1 : a0 < 1
  · rw [if_pos c1] at h
    simp only [Option.some.injEq, Prod.mk.injEq] at h
    obtain ⟨rfl, rfl⟩ := h
    have c1b : decide (a0 < 1) = true := decide_eq_true c1
    clear c1
    go_enter Try.func20, Try.ntmps20
    go_wp2_with (go_step3)
    (try rw [Exit.noGoto_ret]); go_ret2
    exact ⟨rfl, Drawn0.refl _⟩
  · rw [if_neg c1] at h
    by_cases c2 : a0 > 4294967295
    · rw [if_pos c2] at h
      simp only [Option.some.injEq, Prod.mk.injEq] at h
      obtain ⟨rfl, rfl⟩ := h
      have c1b : decide (a0 < 1) = false := decide_eq_false c1
      have c2b : decide (4294967295 < a0) = true := decide_eq_true c2
      clear c1 c2
      go_enter Try.func20, Try.ntmps20
      go_wp2_with (go_step3)
      (try rw [Exit.noGoto_ret]); go_ret2
      exact ⟨rfl, Drawn0.refl _⟩
    · rw [if_neg c2] at h
      have c1b : decide (a0 < 1) = false := decide_eq_false c1
      have c2b : decide (4294967295 < a0) = false := decide_eq_false c2
      clear c1 c2
      obtain ⟨t, ht0, h⟩ := Option.bind_eq_some_iff.mp h
      have A := Aside0.mk ht0
      clear ht0
      by_cases c3 : 0 ≤ wrap64 (31 - wrap64 (t - 1))
      · rw [if_pos c3] at h
        simp only [Option.some.injEq, Prod.mk.injEq] at h
        obtain ⟨h1, rfl⟩ := h
        obtain ⟨j1, hj1⟩ : ∃ j_ : Int, wrap64 (31 - wrap64 (t - 1)) = j_ := ⟨_, rfl⟩
        rw [hj1] at c3 h1
        have c3b := eq_true c3
        have c3c : decide (0 ≤ j1) = true := decide_eq_true c3
        obtain ⟨X, hX⟩ : ∃ X : Int, shl .u64 (IntKind.u64.wrap a0) j1 = X := ⟨_, rfl⟩
        rw [hX] at h1
        have B := Aside0.mk h1
        clear h1
        go_enter Try.func20, Try.ntmps20
        go_wp2
        refine wp_scope_ghost (rest := ?rest) 0 (fun n a' w' => ∃ (x out L : Int) (u1 u2 u3 u4 u8 u9 u10 u11 u12 u13 u14 u15 u16 u17 u18 u19 u20 u21 u22 u23 u24 u25 u26 u27 u28 u29 u30 u31 u32 u33 u34 u35 u36 u37 u38 u39 u40 u41 : Value), Aside0 (L = n ∧ 1 ≤ L ∧ L ≤ 4 ∧ ilog_Log.go n x out = r1) ∧ Drawn0 w w' ∧
          { tmps := #[.int .i64 a0, u1, u2, u3, u4, .int .i64 out, .int .i64 L, .int .u64 x, u8, u9, u10, u11, u12, u13, u14, u15, u16, u17, u18, u19, u20, u21, u22, u23, u24, u25, u26, u27, u28, u29, u30, u31, u32, u33, u34, u35, u36, u37, u38, u39, u40, u41], defers := [] } = a') ?hf ?pass ?first
        case hf => rfl
        case first =>
          intro QQ hret hgoto
          clear c3
          have hX_ : IntKind.u64.wrap (IntKind.u64.wrap a0 * 2 ^ min j1.toNat 64) = X := hX
          have hXz : j1 ≤ 64 → IntKind.u64.wrap (IntKind.u64.wrap a0 * 2 ^ j1.toNat) = X := shl_small hX
          clear hX
          go_wp2_with (first | go_step3 | (go_at_call 21; (with_reducible refine (bits_Len64.calls k _ t _ A.out).mono ?_); rintro e w' ⟨rfl, ⟨nd, rfl⟩⟩))
          all_goals
            refine hgoto 3 _ _ ⟨_, _, _, _, _, _, _, _, _, _, _, _, _, _, _, _, _, _, _, _, _, _, _, _, _, _, _, _, _, _, _, _, _, _, _, _, _, _, _, _, _, ?_, by repeat (first | exact Drawn0.refl _ | apply Drawn0.step), rfl⟩
            refine ⟨rfl, by omega, by omega, ?_⟩
            have B' := B.out
            rw [ilog_Log.go] at B'
            first
              | (have hb : (IntKind.u64.wrap (X * X) / 2147483648 / 4294967296 != 0) = false := (by assumption); rw [if_pos (bne_eq_false_iff_eq.mp hb)] at B'; exact B')
              | (have hb : (IntKind.u64.wrap (X * X) / 2147483648 / 4294967296 != 0) = true := (by assumption); rw [if_neg (bne_iff_ne.mp hb)] at B'; exact B')
        case pass =>
          intro QQ n hret hgoto a' w' hI
          clear hj1 c3 c3b c3c hX B A h
          obtain ⟨x, out, L, u1, u2, u3, u4, u8, u9, u10, u11, u12, u13, u14, u15, u16, u17, u18, u19, u20, u21, u22, u23, u24, u25, u26, u27, u28, u29, u30, u31, u32, u33, u34, u35, u36, u37, u38, u39, u40, u41, hA, ⟨nd, rfl⟩, rfl⟩ := hI
          have hL1 : 1 ≤ L := hA.out.2.1
          have hL4 : L ≤ 4 := hA.out.2.2.1
          go_wp2_with (go_step3)
          all_goals
            obtain ⟨e1, _, _, e2⟩ := hA.out
            obtain ⟨m, rfl⟩ : ∃ m, n = m + 1 := ⟨n - 1, by omega⟩
            rw [ilog_Log.go] at e2
            first
              | (have hb : (IntKind.u64.wrap (x * x) / 2147483648 / 4294967296 != 0) = false := (by assumption); have e3 := e2; rw [if_pos (bne_eq_false_iff_eq.mp hb)] at e3)
              | (have hb : (IntKind.u64.wrap (x * x) / 2147483648 / 4294967296 != 0) = true := (by assumption); have e3 := e2; rw [if_neg (bne_iff_ne.mp hb)] at e3)
            first
              | (refine hgoto m _ _ (by omega) ⟨_, _, _, _, _, _, _, _, _, _, _, _, _, _, _, _, _, _, _, _, _, _, _, _, _, _, _, _, _, _, _, _, _, _, _, _, _, _, _, _, _, ⟨?_, ?_, ?_, e3⟩, by repeat (first | exact Drawn0.refl _ | apply Drawn0.step), rfl⟩ <;> omega)
              | (refine hret _ _ ?_
                 obtain rfl : m = 0 := by omega
                 rw [ilog_Log.go] at e3
                 subst e3
                 go_ret2
                 exact ⟨rfl, by repeat (first | exact Drawn0.refl _ | apply Drawn0.step)⟩)
      · rw [if_neg c3] at h
        exact absurd h (by simp)
end Go.Proofs.Ytdejkajdlflabaa.Hd
