/- varint.Read, walked by hand (its text jumps back to a label): what it answers. -/
import Derived.Test.YtdifgiceallpiaaDoorZPax1
import Derived.Test.YtdifgiceallpiaaDoorZLab
set_option linter.unusedVariables false
set_option linter.unusedSimpArgs false
set_option linter.unusedSectionVars false
namespace Go.Proofs.YtdifgiceallpiaaDoor.Hd
open Go.RowKit Go.Proofs.YtdifgiceallpiaaDoorW.PrintWords Go.Proofs.YtdifgiceallpiaaDoorW.PrintLast Go.Proofs.YtdifgiceallpiaaDoorW.PrintMore Go.Proofs.YtdifgiceallpiaaDoor.Lab Go.Proofs.YtdifgiceallpiaaDoor.Pa
attribute [local go_sem] max2_int min2_int max_two min_two max_three min_three max_four min_four

/-- A number with one more byte's low bits. -/
def varint_Read.more (s : ByteArray) (n i : Int) : Int := Go.bits .or .i64 n (wrap64 (wrap64 (Go.bits .and .u8 (bt s i) 127) * 2 ^ (7 * i).toNat))
def varint_Read.go (k : Nat) (s : ByteArray) : Nat → Int → Option (Int × ByteArray × Int)
  | 0, _ => some (0, (⟨#[]⟩ : ByteArray), 4)
  | d + 1, n =>
    if (4 - (d : Int)) = (s.size : Int) then some (0, (⟨#[]⟩ : ByteArray), 3)
    else if (4 - (d : Int)) < (s.size : Int) then
      (if bt s (4 - (d : Int)) > 127 then varint_Read.go k s d (varint_Read.more s n (4 - (d : Int)))
       else (varint_Size.f k (varint_Read.more s n (4 - (d : Int)))).bind fun t =>
        if t = (4 - (d : Int)) + 1 then some (varint_Read.more s n (4 - (d : Int)), s.extract ((4 - (d : Int)) + 1).toNat s.size, 0) else some (0, (⟨#[]⟩ : ByteArray), 4))
    else none
def varint_Read.f (k : Nat) (a0 : ByteArray) : Option (Int × ByteArray × Int) := varint_Read.go k a0 5 0

theorem varint_Read.mono_go (a0 : ByteArray) (k : Nat) : ∀ d n, LeO (varint_Read.go k a0 d n) (varint_Read.go (k + 1) a0 d n) := by
  intro d
  induction d with
  | zero => intro n; exact LeO.refl _
  | succ d ih =>
    intro n
    simp only [varint_Read.go]
    refine LeO.ite (LeO.refl _) (LeO.ite (LeO.ite (ih _) (LeO.bind (varint_Size.mono _ _) (fun _ => LeO.refl _))) (LeO.refl _))
theorem varint_Read.mono : ∀ (a0 : ByteArray) (k : Nat), LeO (varint_Read.f k a0) (varint_Read.f (k + 1) a0) := fun a0 k => varint_Read.mono_go a0 k 5 0

set_option maxHeartbeats 8000000 in
set_option maxRecDepth 100000 in
theorem varint_Read.calls (k : Nat) (a0 : ByteArray) (r1 : Int) (r2 : ByteArray) (r3 : Int) (w : World) (h : varint_Read.f k a0 = some (r1, r2, r3)) :
    Calls Tryd.prog 57 #[.string a0] w fun e w' => e = .returned (.tuple #[.int .i64 r1, .string r2, .int .i64 r3]) ∧ Drawn0 w w' := by
  unfold varint_Read.f at h
  have B := Aside0.mk h
  clear h
  go_enter Tryd.func57, Tryd.ntmps57
  go_wp2
  refine wp_scope_meet (R := ?R) 0 (fun n a' w' => ∃ (x L : Int) (u1 u2 u3 u4 u7 u8 u9 u10 u11 u12 u13 u14 u15 u16 u17 u18 u19 u20 u21 u22 u23 u24 u25 u26 u27 u28 u29 u30 u31 u32 u33 u34 u35 u36 u37 u38 u39 : Value), Aside0 (L = 5 - (n : Int) ∧ 0 ≤ L ∧ varint_Read.go k a0 n x = some (r1, r2, r3)) ∧ Drawn0 w w' ∧
          { tmps := #[.string a0, u1, u2, u3, u4, .int .i64 x, .int .i64 L, u7, u8, u9, u10, u11, u12, u13, u14, u15, u16, u17, u18, u19, u20, u21, u22, u23, u24, u25, u26, u27, u28, u29, u30, u31, u32, u33, u34, u35, u36, u37, u38, u39], defers := [] } = a') ?hf ?pass ?first
  case hf => rfl
  case first =>
    intro QQ hret hR
    go_wp2
    go_step3
    rename_i K hK
    exact hK _ _ (hR 5 _ _ ⟨0, 0, _, _, _, _, _, _, _, _, _, _, _, _, _, _, _, _, _, _, _, _, _, _, _, _, _, _, _, _, _, _, _, _, _, _, _, _, _, ⟨by omega, by omega, B.out⟩, by repeat (first | exact Drawn0.refl _ | apply Drawn0.step), rfl⟩)
  case pass =>
    intro QQ n hret hgoto a' w' hI
    obtain ⟨x, L, u1, u2, u3, u4, u7, u8, u9, u10, u11, u12, u13, u14, u15, u16, u17, u18, u19, u20, u21, u22, u23, u24, u25, u26, u27, u28, u29, u30, u31, u32, u33, u34, u35, u36, u37, u38, u39, hA, ⟨nd, rfl⟩, rfl⟩ := hI
    obtain ⟨hL, hL0, hgo⟩ := hA.out
    clear hA B
    cases n with
    | zero =>
      have t1 : (L == 5) = true := by rw [beq_iff_eq]; omega
      simp only [varint_Read.go, Option.some.injEq, Prod.mk.injEq] at hgo
      obtain ⟨rfl, rfl, rfl⟩ := hgo
      clear hL hL0
      go_wp2_with (go_step3)
      refine hret _ _ ?_
      go_ret3
      exact ⟨rfl, by repeat (first | exact Drawn0.refl _ | apply Drawn0.step)⟩
    | succ d =>
      have hL' : 4 - (d : Int) = L := by omega
      have hd : L ≤ 4 := by omega
      have t1 : (L == 5) = false := by rw [beq_eq_false_iff_ne]; omega
      simp only [varint_Read.go] at hgo
      rw [hL'] at hgo
      by_cases c1 : L = (a0.size : Int)
      · rw [if_pos c1] at hgo
        simp only [Option.some.injEq, Prod.mk.injEq] at hgo
        obtain ⟨rfl, rfl, rfl⟩ := hgo
        have t2 : (L == (a0.size : Int)) = true := beq_iff_eq.mpr c1
        clear hL hL' c1 hd
        go_wp2_with (go_step3)
        refine hret _ _ ?_
        go_ret3
        exact ⟨rfl, by repeat (first | exact Drawn0.refl _ | apply Drawn0.step)⟩
      · rw [if_neg c1] at hgo
        have t2 : (L == (a0.size : Int)) = false := beq_eq_false_iff_ne.mpr c1
        by_cases c2 : L < (a0.size : Int)
        · rw [if_pos c2] at hgo
          have p6 := eq_true hL0
          have q6 := eq_true c2
          have hx6 := bt_at a0 L
          obtain ⟨j1, hj1⟩ : ∃ j_ : Int, Go.bits .and .u8 (bt a0 L) 127 = j_ := ⟨_, rfl⟩
          have hm : varint_Read.more a0 x L = Go.bits .or .i64 x (wrap64 (wrap64 j1 * 2 ^ (7 * L).toNat)) := by unfold varint_Read.more; rw [hj1]
          rw [hm] at hgo
          have g1 : (0 ≤ 7 * L) = True := eq_true (by omega)
          by_cases c3 : bt a0 L > 127
          · rw [if_pos c3] at hgo
            have t3 : decide (127 < bt a0 L) = true := decide_eq_true c3
            have A := Aside0.mk hgo
            have HL := Aside0.mk hL
            have HL' := Aside0.mk hL'
            clear hgo hL hL' c1 c3 hm
            go_wp2_with (go_step3)
            refine hgoto d _ _ (by omega) ⟨_, _, _, _, _, _, _, _, _, _, _, _, _, _, _, _, _, _, _, _, _, _, _, _, _, _, _, _, _, _, _, _, _, _, _, _, _, _, _, ⟨?_, by omega, A.out⟩, by repeat (first | exact Drawn0.refl _ | apply Drawn0.step), rfl⟩
            have := HL.out
            omega
          · rw [if_neg c3] at hgo
            have t3 : decide (127 < bt a0 L) = false := decide_eq_false c3
            obtain ⟨t, A0, hgo⟩ := Option.bind_eq_some_iff.mp hgo
            have A := Aside0.mk A0
            have HL := Aside0.mk hL
            have HL' := Aside0.mk hL'
            by_cases c4 : t = L + 1
            · rw [if_pos c4] at hgo
              simp only [Option.some.injEq, Prod.mk.injEq] at hgo
              obtain ⟨rfl, rfl, rfl⟩ := hgo
              have t4 : (t == L + 1) = true := beq_iff_eq.mpr c4
              have t4' : (t != L + 1) = false := bne_eq_false_iff_eq.mpr c4
              have p7 : decide (0 ≤ L + 1) = true := decide_eq_true (by omega)
              have q7 : decide (L + 1 ≤ (a0.size : Int)) = true := decide_eq_true (by omega)
              clear A0 hL hL' c1 c3 c4 hm
              go_wp2_with (first | go_step3 | (go_at_call 25; (with_reducible refine (varint_Size.calls k _ t _ A.out).mono ?_); rintro e w' ⟨rfl, ⟨nd2, rfl⟩⟩))
              repeat (go_quiet (fail); try go_wp2)
              refine hret _ _ ?_
              go_ret3
              exact ⟨rfl, by repeat (first | exact Drawn0.refl _ | apply Drawn0.step)⟩
            · rw [if_neg c4] at hgo
              simp only [Option.some.injEq, Prod.mk.injEq] at hgo
              obtain ⟨rfl, rfl, rfl⟩ := hgo
              have t4 : (t == L + 1) = false := beq_eq_false_iff_ne.mpr c4
              have t4' : (t != L + 1) = true := bne_iff_ne.mpr c4
              clear A0 hL hL' c1 c3 c4 hm
              go_wp2_with (first | go_step3 | (go_at_call 25; (with_reducible refine (varint_Size.calls k _ t _ A.out).mono ?_); rintro e w' ⟨rfl, ⟨nd2, rfl⟩⟩))
              refine hret _ _ ?_
              go_ret3
              exact ⟨rfl, by repeat (first | exact Drawn0.refl _ | apply Drawn0.step)⟩
        · rw [if_neg c2] at hgo
          exact absurd hgo (by simp)
end Go.Proofs.YtdifgiceallpiaaDoor.Hd
