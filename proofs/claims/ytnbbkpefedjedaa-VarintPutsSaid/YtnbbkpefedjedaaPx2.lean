-- Laid by this session's driver (wip/tools/myprint.py) over the kit's print program.
import Derived.Test.YtnbbkpefedjedaaPx0
import Derived.Test.YtnbbkpefedjedaaPx1
import Derived.Test.YtnbbkpefedjedaaHRead
namespace Go.Proofs.Ytnbbkpefedjedaa.Pa
end Go.Proofs.Ytnbbkpefedjedaa.Pa
namespace Go.Proofs.Ytnbbkpefedjedaa.Hd
end Go.Proofs.Ytnbbkpefedjedaa.Hd
namespace Go.Proofs.Ytnbbkpefedjedaa.P
open Go.RowKit Go.Proofs.Ytnbbkpefedjedaa.Pa Go.Proofs.Ytnbbkpefedjedaa.Hd Go.Proofs.YtnbbkpefedjedaaW.PrintWords Go.Proofs.YtnbbkpefedjedaaW.PrintLast Go.Proofs.YtnbbkpefedjedaaW.PrintMore
attribute [local go_sem] max2_int min2_int max_two min_two max_three min_three max_four min_four   -- for this text's walks alone
set_option linter.unusedVariables false
set_option linter.unusedSimpArgs false

/-! ### gladstonelaw03_VarintReads: function 4 -/
def gladstonelaw03_VarintReads.j0 : Nat → ByteArray → Int → ByteArray → Int → Bool → Option (Bool)
  | 0, _, _, _, _, _ => none
  | k + 1, x0, x3, x4, x5, x39 => if x39 = true then (some false) else ((varint_Put.f k x3).bind fun bt144 => (if x5 = 0 then (if bt144.1.size + x4.size ≤ 9223372036854775807 then (if (bt144.1 ++ x4).toList = x0.toList then ((gladstonelaw03_awake.f k).bind fun t146 => (some t146)) else (some false)) else (none)) else ((gladstonelaw03_awake.f k).bind fun t147 => (some t147))))
def gladstonelaw03_VarintReads.f (k : Nat) (a0 : ByteArray) : Option (Bool) := if (a0.size : Int) > 1000 then ((gladstonelaw03_awake.f k).bind fun t137 => (some t137)) else ((varint_Read.f k a0).bind fun bt138 => ((gladstoneref03_Read.f k a0).bind fun bt141 => (if bt138.1 = bt141.1 then (if bt138.2.1.toList = bt141.2.1.toList then (gladstonelaw03_VarintReads.j0 k a0 bt138.1 bt138.2.1 bt138.2.2 (bt138.2.2 != bt141.2.2)) else (gladstonelaw03_VarintReads.j0 k a0 bt138.1 bt138.2.1 bt138.2.2 true)) else (gladstonelaw03_VarintReads.j0 k a0 bt138.1 bt138.2.1 bt138.2.2 true))))
theorem gladstonelaw03_VarintReads.mono_l : ∀ k, (∀ y0 y1 y2 y3 y4, LeO (gladstonelaw03_VarintReads.j0 k y0 y1 y2 y3 y4) (gladstonelaw03_VarintReads.j0 (k + 1) y0 y1 y2 y3 y4))
  | 0 => fun _ _ _ _ _ r h => by simp [gladstonelaw03_VarintReads.j0] at h
  | k + 1 => by
    have ih0 := gladstonelaw03_VarintReads.mono_l k
    · intro y0 y1 y2 y3 y4
      unfold gladstonelaw03_VarintReads.j0
      repeat' first
      | (with_reducible exact ih0 _ _ _ _ _)
      | (with_reducible exact gladstonelaw03_awake.mono _)
      | (with_reducible exact gladstoneref03_Read.mono _ _)
      | (with_reducible exact varint_Put.mono _ _)
      | (with_reducible exact varint_Read.mono _ _)
      | (with_reducible exact LeO.refl _)
      | (with_reducible exact LeO.none _)
      | (with_reducible refine LeO.ite ?_ ?_)
      | (with_reducible refine LeO.bind ?_ (fun _ => ?_))
      | exact ih0 _ _ _ _ _
      | exact gladstonelaw03_awake.mono _
      | exact gladstoneref03_Read.mono _ _
      | exact varint_Put.mono _ _
      | exact varint_Read.mono _ _
      | exact LeO.none _
      | refine LeO.ite ?_ ?_
      | refine LeO.bind ?_ (fun _ => ?_)
theorem gladstonelaw03_VarintReads.mono : ∀ a0 k, LeO (gladstonelaw03_VarintReads.f k a0) (gladstonelaw03_VarintReads.f (k + 1) a0) := by
  intro a0 k
  have ih0 := gladstonelaw03_VarintReads.mono_l k
  unfold gladstonelaw03_VarintReads.f
  repeat' first
      | (with_reducible exact ih0 _ _ _ _ _)
      | (with_reducible exact gladstonelaw03_awake.mono _)
      | (with_reducible exact gladstoneref03_Read.mono _ _)
      | (with_reducible exact varint_Put.mono _ _)
      | (with_reducible exact varint_Read.mono _ _)
      | (with_reducible exact LeO.refl _)
      | (with_reducible exact LeO.none _)
      | (with_reducible refine LeO.ite ?_ ?_)
      | (with_reducible refine LeO.bind ?_ (fun _ => ?_))
      | exact ih0 _ _ _ _ _
      | exact gladstonelaw03_awake.mono _
      | exact gladstoneref03_Read.mono _ _
      | exact varint_Put.mono _ _
      | exact varint_Read.mono _ _
      | exact LeO.none _
      | refine LeO.ite ?_ ?_
      | refine LeO.bind ?_ (fun _ => ?_)
set_option maxHeartbeats 8000000 in
set_option maxRecDepth 100000 in
theorem gladstonelaw03_VarintReads.calls (k : Nat) (a0 : ByteArray) (r : Bool) (w : World) (h : gladstonelaw03_VarintReads.f k a0 = some r) :
    Calls Try.prog 4 #[.string a0] w fun e w' => e = .returned (.bool r) ∧ Below w.heap.size w w' := by
  have HB := Aside0.mk (Below.refl w.heap.size w)
  have H : (if (a0.size : Int) > 1000 then ((gladstonelaw03_awake.f k).bind fun t137 => (some t137)) else ((varint_Read.f k a0).bind fun bt138 => ((gladstoneref03_Read.f k a0).bind fun bt141 => (if bt138.1 = bt141.1 then (if bt138.2.1.toList = bt141.2.1.toList then (gladstonelaw03_VarintReads.j0 k a0 bt138.1 bt138.2.1 bt138.2.2 (bt138.2.2 != bt141.2.2)) else (gladstonelaw03_VarintReads.j0 k a0 bt138.1 bt138.2.1 bt138.2.2 true)) else (gladstonelaw03_VarintReads.j0 k a0 bt138.1 bt138.2.1 bt138.2.2 true))))) = some r := h
  clear h
  by_cases c2 : (a0.size : Int) > 1000
  · rw [if_pos c2] at H
    have c2b0 : decide (1000 < (a0.size : Int)) = true := decide_eq_true c2
    have c2b1 : decide (1000 < a0.size) = true := decide_eq_true (by omega)
    clear c2
    replace H := Option.bind_eq_some_iff.mp H
    obtain ⟨t137, A30, H⟩ := H
    replace H : (some t137) = some r := H
    have A3 := Aside0.mk A30
    clear A30
    obtain rfl := Option.some.inj H
    go_enter Try.func4, Try.ntmps4
    go_wp2_with (first | ((with_reducible refine gate_callee (f := 9) rfl ?_); refine goesL_ (some 14) rfl rfl Try.func9 (by kernel_rfl) rfl #[] rfl (by (try simp only [List.map_toArray, List.map_cons, List.map_nil]); first | done | rfl | (simp only [List.length_drop, List.length_take]; rfl)) ?_; (with_reducible refine (gladstonelaw03_awake.calls k  t137 _ A3.out).mono ?_); rintro e w4 ⟨rfl, hb⟩; refine ⟨_, rfl, ?_⟩; have n0_ := Aside0.mk (below_step (by repeat (first | (with_reducible first | exact HB.out | apply below_alloc | apply pw_below_drewN | apply below_drew1) | exact HB.out)) hb); clear HB; have HB := n0_; clear n0_; (try clear hb); (try clear hb2); (try clear hk); (try clear hi)))
    go_ret
    exact ⟨by first | rfl | (simp [errW_none, errW_some] <;> rfl) | (simp [*, errW_none, errW_some] <;> rfl), by repeat (first | (with_reducible first | exact HB.out | apply below_alloc | apply pw_below_drewN | apply below_drew1) | exact HB.out)⟩
  · rw [if_neg c2] at H
    have c2b0 : decide (1000 < (a0.size : Int)) = false := decide_eq_false c2
    have c2b1 : decide (1000 < a0.size) = false := decide_eq_false (by omega)
    clear c2
    replace H := Option.bind_eq_some_iff.mp H
    obtain ⟨⟨t138, t139, t140⟩, A50, H⟩ := H
    replace H : ((gladstoneref03_Read.f k a0).bind fun bt141 => (if t138 = bt141.1 then (if t139.toList = bt141.2.1.toList then (gladstonelaw03_VarintReads.j0 k a0 t138 t139 t140 (t140 != bt141.2.2)) else (gladstonelaw03_VarintReads.j0 k a0 t138 t139 t140 true)) else (gladstonelaw03_VarintReads.j0 k a0 t138 t139 t140 true))) = some r := H
    have A5 := Aside0.mk A50
    clear A50
    replace H := Option.bind_eq_some_iff.mp H
    obtain ⟨⟨t141, t142, t143⟩, A60, H⟩ := H
    replace H : (if t138 = t141 then (if t139.toList = t142.toList then (gladstonelaw03_VarintReads.j0 k a0 t138 t139 t140 (t140 != t143)) else (gladstonelaw03_VarintReads.j0 k a0 t138 t139 t140 true)) else (gladstonelaw03_VarintReads.j0 k a0 t138 t139 t140 true)) = some r := H
    have A6 := Aside0.mk A60
    clear A60
    have HC7 := Aside0.mk H
    clear H
    go_enter Try.func4, Try.ntmps4
    go_upto_region 5 with (first | ((with_reducible refine gate_callee (f := 10) rfl ?_); refine goesL_ (some 17) rfl rfl Try.func10 (by kernel_rfl) rfl #[.string a0] rfl (by (try simp only [List.map_toArray, List.map_cons, List.map_nil]); first | done | rfl | (simp only [List.length_drop, List.length_take]; rfl)) ?_; (with_reducible refine (varint_Read.calls k a0 t138 t139 t140 _ A5.out).mono ?_); rintro e w' ⟨rfl, ⟨nd, rfl⟩⟩; refine ⟨_, rfl, ?_⟩) | ((with_reducible refine gate_callee (f := 11) rfl ?_); refine goesL_ (some 23) rfl rfl Try.func11 (by kernel_rfl) rfl #[.string a0] rfl (by (try simp only [List.map_toArray, List.map_cons, List.map_nil]); first | done | rfl | (simp only [List.length_drop, List.length_take]; rfl)) ?_; (with_reducible refine (gladstoneref03_Read.calls k a0 t141 t142 t143 _ A6.out).mono ?_); rintro e w8 ⟨rfl, hb⟩; refine ⟨_, rfl, ?_⟩; have n0_ := Aside0.mk (below_step (by repeat (first | (with_reducible first | exact HB.out | apply below_alloc | apply pw_below_drewN | apply below_drew1) | exact HB.out)) hb); clear HB; have HB := n0_; clear n0_; (try clear hb); (try clear hb2); (try clear hk); (try clear hi)))
    (try simp only [Act.put, List.setIfInBounds_toArray, List.set_cons_zero, List.set_cons_succ])
    go_cut [39] (fun v39 wc => ∃ (kq : Nat) (x39_6 : Bool), v39 = .bool x39_6 ∧ Aside0 (gladstonelaw03_VarintReads.j0 kq a0 t138 t139 t140 x39_6 = some r) ∧ Aside0 (kq ≤ k) ∧ Aside0 (Below w.heap.size w wc))
    case first =>
      have H := HC7.out
      clear HC7
      by_cases c9 : t138 = t141
      · rw [if_pos c9] at H
        have c9b0 : (t138 == t141) = true := beq_iff_eq.mpr c9
        have c9b1 : (t138 != t141) = false := bne_eq_false_iff_eq.mpr c9
        clear c9
        (first | rw [c9b0] | (simp only [i64_w, i32_w]; rw [c9b0]) | skip)
        by_cases c10 : t139.toList = t142.toList
        · rw [if_pos c10] at H
          have c10b0 : (t139.toList == t142.toList) = true := beq_iff_eq.mpr c10
          have c10b1 : (t139.toList != t142.toList) = false := bne_eq_false_iff_eq.mpr c10
          clear c10
          have H' := Aside0.mk H
          clear H
          go_wp2
          go_meet
          case rel => exact ⟨_, ((t140 != t143)), (by first | rfl | (simp; done) | (simp [*]; done)), H', ⟨by first | omega | exact Nat.le_refl _⟩, ⟨by repeat (first | (with_reducible first | exact HB.out | apply below_alloc | apply pw_below_drewN | apply below_drew1) | exact HB.out)⟩⟩
        · rw [if_neg c10] at H
          have c10b0 : (t139.toList == t142.toList) = false := beq_eq_false_iff_ne.mpr c10
          have c10b1 : (t139.toList != t142.toList) = true := bne_iff_ne.mpr c10
          have H' := Aside0.mk H
          clear H
          go_wp2
          go_meet
          case rel => exact ⟨_, (true), (by first | rfl | (simp; done) | (simp [*]; done)), H', ⟨by first | omega | exact Nat.le_refl _⟩, ⟨by repeat (first | (with_reducible first | exact HB.out | apply below_alloc | apply pw_below_drewN | apply below_drew1) | exact HB.out)⟩⟩
      · rw [if_neg c9] at H
        have c9b0 : (t138 == t141) = false := beq_eq_false_iff_ne.mpr c9
        have c9b1 : (t138 != t141) = true := bne_iff_ne.mpr c9
        (first | rw [c9b0] | (simp only [i64_w, i32_w]; rw [c9b0]) | skip)
        have H' := Aside0.mk H
        clear H
        go_wp2
        go_meet
        case rel => exact ⟨_, (true), (by first | rfl | (simp; done) | (simp [*]; done)), H', ⟨by first | omega | exact Nat.le_refl _⟩, ⟨by repeat (first | (with_reducible first | exact HB.out | apply below_alloc | apply pw_below_drewN | apply below_drew1) | exact HB.out)⟩⟩
    case rest =>
      clear HC7
      try clear c1
      try clear c2
      try clear c2b0
      try clear c2b1
      try clear p2
      try clear c4
      try clear c9
      try clear c9b0
      try clear c9b1
      try clear c10
      try clear c10b0
      try clear c10b1
      obtain ⟨kq, x39_6, rfl, HA, HJ6, HB⟩ := hcut
      cases kq with
      | zero => exact absurd HA.out (by simp [gladstonelaw03_VarintReads.j0])
      | succ kj6 =>
        have H := HA.out
        clear HA
        simp only [gladstonelaw03_VarintReads.j0] at H
        by_cases c11 : x39_6 = true
        · subst c11
          have H1 : (some false) = some r := by rw [if_pos rfl] at H; exact H
          clear H
          have H := H1
          clear H1
          obtain rfl := Option.some.inj H
          go_wp2
          go_ret
          exact ⟨by first | rfl | (simp [errW_none, errW_some] <;> rfl) | (simp [*, errW_none, errW_some] <;> rfl), by repeat (first | (with_reducible first | exact HB.out | apply below_alloc | apply pw_below_drewN | apply below_drew1) | exact HB.out)⟩
        · replace c11 := Bool.eq_false_iff.mpr c11
          subst c11
          have H1 : ((varint_Put.f kj6 t138).bind fun bt144 => (if t140 = 0 then (if bt144.1.size + t139.size ≤ 9223372036854775807 then (if (bt144.1 ++ t139).toList = a0.toList then ((gladstonelaw03_awake.f kj6).bind fun t146 => (some t146)) else (some false)) else (none)) else ((gladstonelaw03_awake.f kj6).bind fun t147 => (some t147)))) = some r := by rw [if_neg (show ¬ (false = true) by decide)] at H; exact H
          clear H
          have H := H1
          clear H1
          replace H := Option.bind_eq_some_iff.mp H
          obtain ⟨⟨t144, t145⟩, A120, H⟩ := H
          replace H : (if t140 = 0 then (if t144.size + t139.size ≤ 9223372036854775807 then (if (t144 ++ t139).toList = a0.toList then ((gladstonelaw03_awake.f kj6).bind fun t146 => (some t146)) else (some false)) else (none)) else ((gladstonelaw03_awake.f kj6).bind fun t147 => (some t147))) = some r := H
          have A12 := Aside0.mk A120
          clear A120
          by_cases c13 : t140 = 0
          · rw [if_pos c13] at H
            have c13b0 : (t140 == 0) = true := beq_iff_eq.mpr c13
            have c13b1 : (t140 != 0) = false := bne_eq_false_iff_eq.mpr c13
            clear c13
            by_cases c14 : t144.size + t139.size ≤ 9223372036854775807
            · rw [if_pos c14] at H
              have c14b0 := eq_true c14
              have c14b1 : decide (t144.size + t139.size ≤ 9223372036854775807) = true := decide_eq_true c14
              try have c14b2 : (9223372036854775807 < t144.size + t139.size) = False := eq_false (Nat.not_lt.2 c14)
              by_cases c15 : (t144 ++ t139).toList = a0.toList
              · rw [if_pos c15] at H
                have c15b0 : ((t144 ++ t139).toList == a0.toList) = true := beq_iff_eq.mpr c15
                have c15b1 : ((t144 ++ t139).toList != a0.toList) = false := bne_eq_false_iff_eq.mpr c15
                clear c15
                replace H := Option.bind_eq_some_iff.mp H
                obtain ⟨t146, A160, H⟩ := H
                replace H : (some t146) = some r := H
                have A16 := Aside0.mk A160
                clear A160
                obtain rfl := Option.some.inj H
                go_wp2_with (first | ((with_reducible refine gate_callee (f := 6) rfl ?_); refine goesL_ (some 42) rfl rfl Try.func6 (by kernel_rfl) rfl #[.int .i64 t138] rfl (by (try simp only [List.map_toArray, List.map_cons, List.map_nil]); first | done | rfl | (simp only [List.length_drop, List.length_take]; rfl)) ?_; (with_reducible refine (varint_Put.calls kj6 t138 t144 t145 _ A12.out).mono ?_); rintro e w17 ⟨rfl, hb⟩; refine ⟨_, rfl, ?_⟩; have n0_ := Aside0.mk (below_step (by repeat (first | (with_reducible first | exact HB.out | apply below_alloc | apply pw_below_drewN | apply below_drew1) | exact HB.out)) hb); clear HB; have HB := n0_; clear n0_; (try clear hb); (try clear hb2); (try clear hk); (try clear hi)) | (go_at_call 9; (with_reducible refine (gladstonelaw03_awake.calls kj6  t146 _ A16.out).mono ?_); rintro e w18 ⟨rfl, hb⟩; have n0_ := Aside0.mk (below_step (by repeat (first | (with_reducible first | exact HB.out | apply below_alloc | apply pw_below_drewN | apply below_drew1) | exact HB.out)) hb); clear HB; have HB := n0_; clear n0_; (try clear hb); (try clear hb2); (try clear hk); (try clear hi)))
                go_ret
                exact ⟨by first | rfl | (simp [errW_none, errW_some] <;> rfl) | (simp [*, errW_none, errW_some] <;> rfl), by repeat (first | (with_reducible first | exact HB.out | apply below_alloc | apply pw_below_drewN | apply below_drew1) | exact HB.out)⟩
              · rw [if_neg c15] at H
                have c15b0 : ((t144 ++ t139).toList == a0.toList) = false := beq_eq_false_iff_ne.mpr c15
                have c15b1 : ((t144 ++ t139).toList != a0.toList) = true := bne_iff_ne.mpr c15
                obtain rfl := Option.some.inj H
                go_wp2_with (first | ((with_reducible refine gate_callee (f := 6) rfl ?_); refine goesL_ (some 42) rfl rfl Try.func6 (by kernel_rfl) rfl #[.int .i64 t138] rfl (by (try simp only [List.map_toArray, List.map_cons, List.map_nil]); first | done | rfl | (simp only [List.length_drop, List.length_take]; rfl)) ?_; (with_reducible refine (varint_Put.calls kj6 t138 t144 t145 _ A12.out).mono ?_); rintro e w19 ⟨rfl, hb⟩; refine ⟨_, rfl, ?_⟩; have n0_ := Aside0.mk (below_step (by repeat (first | (with_reducible first | exact HB.out | apply below_alloc | apply pw_below_drewN | apply below_drew1) | exact HB.out)) hb); clear HB; have HB := n0_; clear n0_; (try clear hb); (try clear hb2); (try clear hk); (try clear hi)))
                go_ret
                exact ⟨by first | rfl | (simp [errW_none, errW_some] <;> rfl) | (simp [*, errW_none, errW_some] <;> rfl), by repeat (first | (with_reducible first | exact HB.out | apply below_alloc | apply pw_below_drewN | apply below_drew1) | exact HB.out)⟩
            · rw [if_neg c14] at H
              exact absurd H (by simp)
          · rw [if_neg c13] at H
            have c13b0 : (t140 == 0) = false := beq_eq_false_iff_ne.mpr c13
            have c13b1 : (t140 != 0) = true := bne_iff_ne.mpr c13
            replace H := Option.bind_eq_some_iff.mp H
            obtain ⟨t147, A200, H⟩ := H
            replace H : (some t147) = some r := H
            have A20 := Aside0.mk A200
            clear A200
            obtain rfl := Option.some.inj H
            go_wp2_with (first | ((with_reducible refine gate_callee (f := 6) rfl ?_); refine goesL_ (some 42) rfl rfl Try.func6 (by kernel_rfl) rfl #[.int .i64 t138] rfl (by (try simp only [List.map_toArray, List.map_cons, List.map_nil]); first | done | rfl | (simp only [List.length_drop, List.length_take]; rfl)) ?_; (with_reducible refine (varint_Put.calls kj6 t138 t144 t145 _ A12.out).mono ?_); rintro e w21 ⟨rfl, hb⟩; refine ⟨_, rfl, ?_⟩; have n0_ := Aside0.mk (below_step (by repeat (first | (with_reducible first | exact HB.out | apply below_alloc | apply pw_below_drewN | apply below_drew1) | exact HB.out)) hb); clear HB; have HB := n0_; clear n0_; (try clear hb); (try clear hb2); (try clear hk); (try clear hi)) | (go_at_call 9; (with_reducible refine (gladstonelaw03_awake.calls kj6  t147 _ A20.out).mono ?_); rintro e w22 ⟨rfl, hb⟩; have n0_ := Aside0.mk (below_step (by repeat (first | (with_reducible first | exact HB.out | apply below_alloc | apply pw_below_drewN | apply below_drew1) | exact HB.out)) hb); clear HB; have HB := n0_; clear n0_; (try clear hb); (try clear hb2); (try clear hk); (try clear hi)))
            go_ret
            exact ⟨by first | rfl | (simp [errW_none, errW_some] <;> rfl) | (simp [*, errW_none, errW_some] <;> rfl), by repeat (first | (with_reducible first | exact HB.out | apply below_alloc | apply pw_below_drewN | apply below_drew1) | exact HB.out)⟩

/-- THE ONE PURE STATEMENT of gladstonelaw03_VarintReads: yours. -/
def gladstonelaw03_VarintReads.Pure : Prop := ∀ (a0 : ByteArray), a0.size ≤ 140737488351232 → ∃ k, gladstonelaw03_VarintReads.f k a0 = some true
theorem gladstonelaw03_VarintReads.walk (P : gladstonelaw03_VarintReads.Pure) (a0 : ByteArray) (w : World) (w0 : a0.size ≤ 140737488351232) :
    Calls Try.prog 4 #[.string a0] w fun e w' => e = .returned (.bool true) ∧ Below w.heap.size w w' := by
  obtain ⟨k, h⟩ := P a0 w0
  refine (gladstonelaw03_VarintReads.calls k a0 true w h).mono ?_
  rintro e w' ⟨rfl, hd⟩
  exact ⟨rfl, hd⟩

/-! ### gladstonelaw03_VarintBack: function 5 -/
def gladstonelaw03_VarintBack.l0 : Nat → Int → ByteArray → ByteArray → Int → Int → ByteArray → Int → Int → Option (Bool)
  | 0, _, _, _, _, _, _, _, _ => none
  | k + 1, x0, x1, x5, x6, x7, x8, x9, x10 => if x10 < (x5.size : Int) then (if 0 ≤ x10 then (if x10 ≤ (x5.size : Int) then ((varint_Read.f k (x5.extract 0 (x10 : Int).toNat)).bind fun bt154 => (if bt154.2.2 = 3 then (gladstonelaw03_VarintBack.l0 k x0 x1 x5 x6 x7 x8 x9 (wrap64 (x10 + 1))) else (some false))) else (none)) else (none)) else (if x6 = 0 then (if x7 = (wrap64 (x0)) then (if x8.toList = x1.toList then (if x9 = 0 then ((gladstonelaw03_awake.f k).bind fun t157 => (some t157)) else (some false)) else (some false)) else (some false)) else (some false))
def gladstonelaw03_VarintBack.f (k : Nat) (a0 : Int) (a1 : ByteArray) : Option (Bool) := if (a1.size : Int) > 500 then ((gladstonelaw03_awake.f k).bind fun t148 => (some t148)) else ((varint_Put.f k (wrap64 (a0))).bind fun bt149 => (if bt149.1.size + a1.size ≤ 9223372036854775807 then ((varint_Read.f k (bt149.1 ++ a1)).bind fun bt151 => (gladstonelaw03_VarintBack.l0 k a0 a1 bt149.1 bt149.2 bt151.1 bt151.2.1 bt151.2.2 0)) else (none)))
theorem gladstonelaw03_VarintBack.mono_l : ∀ k, (∀ y0 y1 y2 y3 y4 y5 y6 y7, LeO (gladstonelaw03_VarintBack.l0 k y0 y1 y2 y3 y4 y5 y6 y7) (gladstonelaw03_VarintBack.l0 (k + 1) y0 y1 y2 y3 y4 y5 y6 y7))
  | 0 => fun _ _ _ _ _ _ _ _ r h => by simp [gladstonelaw03_VarintBack.l0] at h
  | k + 1 => by
    have ih0 := gladstonelaw03_VarintBack.mono_l k
    · intro y0 y1 y2 y3 y4 y5 y6 y7
      unfold gladstonelaw03_VarintBack.l0
      repeat' first
      | (with_reducible exact ih0 _ _ _ _ _ _ _ _)
      | (with_reducible exact gladstonelaw03_awake.mono _)
      | (with_reducible exact varint_Put.mono _ _)
      | (with_reducible exact varint_Read.mono _ _)
      | (with_reducible exact LeO.refl _)
      | (with_reducible exact LeO.none _)
      | (with_reducible refine LeO.ite ?_ ?_)
      | (with_reducible refine LeO.bind ?_ (fun _ => ?_))
      | exact ih0 _ _ _ _ _ _ _ _
      | exact gladstonelaw03_awake.mono _
      | exact varint_Put.mono _ _
      | exact varint_Read.mono _ _
      | exact LeO.none _
      | refine LeO.ite ?_ ?_
      | refine LeO.bind ?_ (fun _ => ?_)
theorem gladstonelaw03_VarintBack.mono : ∀ a0 a1 k, LeO (gladstonelaw03_VarintBack.f k a0 a1) (gladstonelaw03_VarintBack.f (k + 1) a0 a1) := by
  intro a0 a1 k
  have ih0 := gladstonelaw03_VarintBack.mono_l k
  unfold gladstonelaw03_VarintBack.f
  repeat' first
      | (with_reducible exact ih0 _ _ _ _ _ _ _ _)
      | (with_reducible exact gladstonelaw03_awake.mono _)
      | (with_reducible exact varint_Put.mono _ _)
      | (with_reducible exact varint_Read.mono _ _)
      | (with_reducible exact LeO.refl _)
      | (with_reducible exact LeO.none _)
      | (with_reducible refine LeO.ite ?_ ?_)
      | (with_reducible refine LeO.bind ?_ (fun _ => ?_))
      | exact ih0 _ _ _ _ _ _ _ _
      | exact gladstonelaw03_awake.mono _
      | exact varint_Put.mono _ _
      | exact varint_Read.mono _ _
      | exact LeO.none _
      | refine LeO.ite ?_ ?_
      | refine LeO.bind ?_ (fun _ => ?_)
set_option maxHeartbeats 8000000 in
set_option maxRecDepth 100000 in
theorem gladstonelaw03_VarintBack.calls (k : Nat) (a0 : Int) (a1 : ByteArray) (r : Bool) (w : World) (h : gladstonelaw03_VarintBack.f k a0 a1 = some r) :
    Calls Try.prog 5 #[.int .u32 a0, .string a1] w fun e w' => e = .returned (.bool r) ∧ Below w.heap.size w w' := by
  have HB := Aside0.mk (Below.refl w.heap.size w)
  have H : (if (a1.size : Int) > 500 then ((gladstonelaw03_awake.f k).bind fun t148 => (some t148)) else ((varint_Put.f k (wrap64 (a0))).bind fun bt149 => (if bt149.1.size + a1.size ≤ 9223372036854775807 then ((varint_Read.f k (bt149.1 ++ a1)).bind fun bt151 => (gladstonelaw03_VarintBack.l0 k a0 a1 bt149.1 bt149.2 bt151.1 bt151.2.1 bt151.2.2 0)) else (none)))) = some r := h
  clear h
  by_cases c3 : (a1.size : Int) > 500
  · rw [if_pos c3] at H
    have c3b0 : decide (500 < (a1.size : Int)) = true := decide_eq_true c3
    have c3b1 : decide (500 < a1.size) = true := decide_eq_true (by omega)
    clear c3
    replace H := Option.bind_eq_some_iff.mp H
    obtain ⟨t148, A40, H⟩ := H
    replace H : (some t148) = some r := H
    have A4 := Aside0.mk A40
    clear A40
    obtain rfl := Option.some.inj H
    go_enter Try.func5, Try.ntmps5
    go_wp2_with (first | ((with_reducible refine gate_callee (f := 9) rfl ?_); refine goesL_ (some 17) rfl rfl Try.func9 (by kernel_rfl) rfl #[] rfl (by (try simp only [List.map_toArray, List.map_cons, List.map_nil]); first | done | rfl | (simp only [List.length_drop, List.length_take]; rfl)) ?_; (with_reducible refine (gladstonelaw03_awake.calls k  t148 _ A4.out).mono ?_); rintro e w5 ⟨rfl, hb⟩; refine ⟨_, rfl, ?_⟩; have n0_ := Aside0.mk (below_step (by repeat (first | (with_reducible first | exact HB.out | apply below_alloc | apply pw_below_drewN | apply below_drew1) | exact HB.out)) hb); clear HB; have HB := n0_; clear n0_; (try clear hb); (try clear hb2); (try clear hk); (try clear hi)))
    go_ret
    exact ⟨by first | rfl | (simp [errW_none, errW_some] <;> rfl) | (simp [*, errW_none, errW_some] <;> rfl), by repeat (first | (with_reducible first | exact HB.out | apply below_alloc | apply pw_below_drewN | apply below_drew1) | exact HB.out)⟩
  · rw [if_neg c3] at H
    have c3b0 : decide (500 < (a1.size : Int)) = false := decide_eq_false c3
    have c3b1 : decide (500 < a1.size) = false := decide_eq_false (by omega)
    clear c3
    replace H := Option.bind_eq_some_iff.mp H
    obtain ⟨⟨t149, t150⟩, A60, H⟩ := H
    replace H : (if t149.size + a1.size ≤ 9223372036854775807 then ((varint_Read.f k (t149 ++ a1)).bind fun bt151 => (gladstonelaw03_VarintBack.l0 k a0 a1 t149 t150 bt151.1 bt151.2.1 bt151.2.2 0)) else (none)) = some r := H
    have A6 := Aside0.mk A60
    clear A60
    by_cases c7 : t149.size + a1.size ≤ 9223372036854775807
    · rw [if_pos c7] at H
      have c7b0 := eq_true c7
      have c7b1 : decide (t149.size + a1.size ≤ 9223372036854775807) = true := decide_eq_true c7
      try have c7b2 : (9223372036854775807 < t149.size + a1.size) = False := eq_false (Nat.not_lt.2 c7)
      replace H := Option.bind_eq_some_iff.mp H
      obtain ⟨⟨t151, t152, t153⟩, A80, H⟩ := H
      replace H : (gladstonelaw03_VarintBack.l0 k a0 a1 t149 t150 t151 t152 t153 0) = some r := H
      have A8 := Aside0.mk A80
      clear A80
      have H' := Aside0.mk H
      clear H
      go_enter Try.func5, Try.ntmps5
      go_wp2_with (first | ((with_reducible refine gate_callee (f := 6) rfl ?_); refine goesL_ (some 21) rfl rfl Try.func6 (by kernel_rfl) rfl #[.int .i64 (wrap64 (a0))] rfl (by (try simp only [List.map_toArray, List.map_cons, List.map_nil]); first | done | rfl | (simp only [List.length_drop, List.length_take]; rfl)) ?_; (with_reducible refine (varint_Put.calls k (wrap64 (a0)) t149 t150 _ A6.out).mono ?_); rintro e w9 ⟨rfl, hb⟩; refine ⟨_, rfl, ?_⟩; have n0_ := Aside0.mk (below_step (by repeat (first | (with_reducible first | exact HB.out | apply below_alloc | apply pw_below_drewN | apply below_drew1) | exact HB.out)) hb); clear HB; have HB := n0_; clear n0_; (try clear hb); (try clear hb2); (try clear hk); (try clear hi)) | ((with_reducible refine gate_callee (f := 10) rfl ?_); refine goesL_ (some 28) rfl rfl Try.func10 (by kernel_rfl) rfl #[.string (t149 ++ a1)] rfl (by (try simp only [List.map_toArray, List.map_cons, List.map_nil]); first | done | rfl | (simp only [List.length_drop, List.length_take]; rfl)) ?_; (with_reducible refine (varint_Read.calls k (t149 ++ a1) t151 t152 t153 _ A8.out).mono ?_); rintro e w' ⟨rfl, ⟨nd, rfl⟩⟩; refine ⟨_, rfl, ?_⟩))
      go_loopg [10] k (fun kq v10 w' => ∃ (x10_1 : Int), v10 = .int .i64 x10_1 ∧ Aside0 (gladstonelaw03_VarintBack.l0 kq a0 a1 t149 t150 t151 t152 t153 x10_1 = some r) ∧ Aside0 (kq ≤ k) ∧ Aside0 (Below w.heap.size w w'))
      case atStart => exact ⟨(0), (by first | rfl | (simp; done) | (simp [*]; done)), H', ⟨Nat.le_refl _⟩, ⟨by repeat (first | (with_reducible first | exact HB.out | apply below_alloc | apply pw_below_drewN | apply below_drew1) | exact HB.out)⟩⟩
      case round =>
        clear H'
        try clear c1
        try clear p2
        try clear c3
        try clear c3b0
        try clear c3b1
        try clear c5
        try clear c6
        try clear p6
        try clear c7
        try clear c7b0
        try clear c7b1
        try clear c7b2
        try clear c9
        obtain ⟨x10_1, rfl, HA, HK1, HB⟩ := hrel
        cases gk with
        | zero => exact absurd HA.out (by simp [gladstonelaw03_VarintBack.l0])
        | succ k1 =>
          have H := HA.out
          clear HA
          simp only [gladstonelaw03_VarintBack.l0] at H
          by_cases c10 : x10_1 < (t149.size : Int)
          · rw [if_pos c10] at H
            have c10b0 : decide (x10_1 < (t149.size : Int)) = true := decide_eq_true c10
            clear c10
            by_cases c11 : 0 ≤ x10_1
            · rw [if_pos c11] at H
              have c11b0 := eq_true c11
              have c11b1 : decide (0 ≤ x10_1) = true := decide_eq_true c11
              clear c11
              by_cases c12 : x10_1 ≤ (t149.size : Int)
              · rw [if_pos c12] at H
                have c12b0 := eq_true c12
                have c12b1 : decide (x10_1 ≤ (t149.size : Int)) = true := decide_eq_true c12
                clear c12
                replace H := Option.bind_eq_some_iff.mp H
                obtain ⟨⟨t154, t155, t156⟩, A130, H⟩ := H
                replace H : (if t156 = 3 then (gladstonelaw03_VarintBack.l0 k1 a0 a1 t149 t150 t151 t152 t153 (wrap64 (x10_1 + 1))) else (some false)) = some r := H
                have A13 := Aside0.mk A130
                clear A130
                by_cases c14 : t156 = 3
                · rw [if_pos c14] at H
                  have c14b0 : (t156 == 3) = true := beq_iff_eq.mpr c14
                  have c14b1 : (t156 != 3) = false := bne_eq_false_iff_eq.mpr c14
                  clear c14
                  have H' := Aside0.mk H
                  clear H
                  go_wp2_with (first | ((with_reducible refine gate_callee (f := 10) rfl ?_); refine goesL_ (some 42) rfl rfl Try.func10 (by kernel_rfl) rfl #[.string (t149.extract 0 (x10_1 : Int).toNat)] rfl (by (try simp only [List.map_toArray, List.map_cons, List.map_nil]); first | done | rfl | (simp only [List.length_drop, List.length_take]; rfl)) ?_; (with_reducible refine (varint_Read.calls k1 (t149.extract 0 (x10_1 : Int).toNat) t154 t155 t156 _ A13.out).mono ?_); rintro e w' ⟨rfl, ⟨nd, rfl⟩⟩; refine ⟨_, rfl, ?_⟩))
                  go_roundg k1
                  case measure => have := HK1.out; omega
                  case rel => exact ⟨(wrap64 (x10_1 + 1)), (by first | rfl | (simp; done) | (simp [*]; done)), H', ⟨by have := HK1.out; omega⟩, ⟨by repeat (first | (with_reducible first | exact HB.out | apply below_alloc | apply pw_below_drewN | apply below_drew1) | exact HB.out)⟩⟩
                · rw [if_neg c14] at H
                  have c14b0 : (t156 == 3) = false := beq_eq_false_iff_ne.mpr c14
                  have c14b1 : (t156 != 3) = true := bne_iff_ne.mpr c14
                  obtain rfl := Option.some.inj H
                  go_wp2_with (first | ((with_reducible refine gate_callee (f := 10) rfl ?_); refine goesL_ (some 42) rfl rfl Try.func10 (by kernel_rfl) rfl #[.string (t149.extract 0 (x10_1 : Int).toNat)] rfl (by (try simp only [List.map_toArray, List.map_cons, List.map_nil]); first | done | rfl | (simp only [List.length_drop, List.length_take]; rfl)) ?_; (with_reducible refine (varint_Read.calls k1 (t149.extract 0 (x10_1 : Int).toNat) t154 t155 t156 _ A13.out).mono ?_); rintro e w' ⟨rfl, ⟨nd, rfl⟩⟩; refine ⟨_, rfl, ?_⟩))
                  go_ret
                  exact ⟨by first | rfl | (simp [errW_none, errW_some] <;> rfl) | (simp [*, errW_none, errW_some] <;> rfl), by repeat (first | (with_reducible first | exact HB.out | apply below_alloc | apply pw_below_drewN | apply below_drew1) | exact HB.out)⟩
              · rw [if_neg c12] at H
                exact absurd H (by simp)
            · rw [if_neg c11] at H
              exact absurd H (by simp)
          · rw [if_neg c10] at H
            have c10b0 : decide (x10_1 < (t149.size : Int)) = false := decide_eq_false c10
            clear c10
            by_cases c15 : t150 = 0
            · rw [if_pos c15] at H
              have c15b0 : (t150 == 0) = true := beq_iff_eq.mpr c15
              have c15b1 : (t150 != 0) = false := bne_eq_false_iff_eq.mpr c15
              clear c15
              by_cases c16 : t151 = (wrap64 (a0))
              · rw [if_pos c16] at H
                have c16b0 : (t151 == (wrap64 (a0))) = true := beq_iff_eq.mpr c16
                have c16b1 : (t151 != (wrap64 (a0))) = false := bne_eq_false_iff_eq.mpr c16
                clear c16
                by_cases c17 : t152.toList = a1.toList
                · rw [if_pos c17] at H
                  have c17b0 : (t152.toList == a1.toList) = true := beq_iff_eq.mpr c17
                  have c17b1 : (t152.toList != a1.toList) = false := bne_eq_false_iff_eq.mpr c17
                  clear c17
                  by_cases c18 : t153 = 0
                  · rw [if_pos c18] at H
                    have c18b0 : (t153 == 0) = true := beq_iff_eq.mpr c18
                    have c18b1 : (t153 != 0) = false := bne_eq_false_iff_eq.mpr c18
                    clear c18
                    replace H := Option.bind_eq_some_iff.mp H
                    obtain ⟨t157, A190, H⟩ := H
                    replace H : (some t157) = some r := H
                    have A19 := Aside0.mk A190
                    clear A190
                    obtain rfl := Option.some.inj H
                    go_wp2_with (first | (go_at_call 9; (with_reducible refine (gladstonelaw03_awake.calls k1  t157 _ A19.out).mono ?_); rintro e w20 ⟨rfl, hb⟩; have n0_ := Aside0.mk (below_step (by repeat (first | (with_reducible first | exact HB.out | apply below_alloc | apply pw_below_drewN | apply below_drew1) | exact HB.out)) hb); clear HB; have HB := n0_; clear n0_; (try clear hb); (try clear hb2); (try clear hk); (try clear hi)))
                    go_ret
                    exact ⟨by first | rfl | (simp [errW_none, errW_some] <;> rfl) | (simp [*, errW_none, errW_some] <;> rfl), by repeat (first | (with_reducible first | exact HB.out | apply below_alloc | apply pw_below_drewN | apply below_drew1) | exact HB.out)⟩
                  · rw [if_neg c18] at H
                    have c18b0 : (t153 == 0) = false := beq_eq_false_iff_ne.mpr c18
                    have c18b1 : (t153 != 0) = true := bne_iff_ne.mpr c18
                    obtain rfl := Option.some.inj H
                    go_wp2
                    go_ret
                    exact ⟨by first | rfl | (simp [errW_none, errW_some] <;> rfl) | (simp [*, errW_none, errW_some] <;> rfl), by repeat (first | (with_reducible first | exact HB.out | apply below_alloc | apply pw_below_drewN | apply below_drew1) | exact HB.out)⟩
                · rw [if_neg c17] at H
                  have c17b0 : (t152.toList == a1.toList) = false := beq_eq_false_iff_ne.mpr c17
                  have c17b1 : (t152.toList != a1.toList) = true := bne_iff_ne.mpr c17
                  obtain rfl := Option.some.inj H
                  go_wp2
                  go_ret
                  exact ⟨by first | rfl | (simp [errW_none, errW_some] <;> rfl) | (simp [*, errW_none, errW_some] <;> rfl), by repeat (first | (with_reducible first | exact HB.out | apply below_alloc | apply pw_below_drewN | apply below_drew1) | exact HB.out)⟩
              · rw [if_neg c16] at H
                have c16b0 : (t151 == (wrap64 (a0))) = false := beq_eq_false_iff_ne.mpr c16
                have c16b1 : (t151 != (wrap64 (a0))) = true := bne_iff_ne.mpr c16
                obtain rfl := Option.some.inj H
                go_wp2
                go_ret
                exact ⟨by first | rfl | (simp [errW_none, errW_some] <;> rfl) | (simp [*, errW_none, errW_some] <;> rfl), by repeat (first | (with_reducible first | exact HB.out | apply below_alloc | apply pw_below_drewN | apply below_drew1) | exact HB.out)⟩
            · rw [if_neg c15] at H
              have c15b0 : (t150 == 0) = false := beq_eq_false_iff_ne.mpr c15
              have c15b1 : (t150 != 0) = true := bne_iff_ne.mpr c15
              obtain rfl := Option.some.inj H
              go_wp2
              go_ret
              exact ⟨by first | rfl | (simp [errW_none, errW_some] <;> rfl) | (simp [*, errW_none, errW_some] <;> rfl), by repeat (first | (with_reducible first | exact HB.out | apply below_alloc | apply pw_below_drewN | apply below_drew1) | exact HB.out)⟩
    · rw [if_neg c7] at H
      exact absurd H (by simp)

/-- THE ONE PURE STATEMENT of gladstonelaw03_VarintBack: yours. -/
def gladstonelaw03_VarintBack.Pure : Prop := ∀ (a0 : Int) (a1 : ByteArray), (Lit.int .u32 a0).wf = true → a1.size ≤ 140737488351232 → ∃ k, gladstonelaw03_VarintBack.f k a0 a1 = some true
theorem gladstonelaw03_VarintBack.walk (P : gladstonelaw03_VarintBack.Pure) (a0 : Int) (a1 : ByteArray) (w : World) (w0 : (Lit.int .u32 a0).wf = true) (w1 : a1.size ≤ 140737488351232) :
    Calls Try.prog 5 #[.int .u32 a0, .string a1] w fun e w' => e = .returned (.bool true) ∧ Below w.heap.size w w' := by
  obtain ⟨k, h⟩ := P a0 a1 w0 w1
  refine (gladstonelaw03_VarintBack.calls k a0 a1 true w h).mono ?_
  rintro e w' ⟨rfl, hd⟩
  exact ⟨rfl, hd⟩

end Go.Proofs.Ytnbbkpefedjedaa.P
