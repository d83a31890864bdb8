-- Laid by this session's driver (wip/tools/myprint.py) over the kit's print program.
import Derived.Test.YtnmggblhbodfgaaPx0
import Derived.Test.YtnmggblhbodfgaaPx4
namespace Go.Proofs.Ytnmggblhbodfgaa.Hd
end Go.Proofs.Ytnmggblhbodfgaa.Hd
namespace Go.Proofs.Ytnmggblhbodfgaa.P
open Go.RowKit Go.Proofs.Ytnmggblhbodfgaa.Hd Go.Proofs.YtnmggblhbodfgaaW.PrintWords Go.Proofs.YtnmggblhbodfgaaW.PrintLast Go.Proofs.YtnmggblhbodfgaaW.PrintMore
attribute [local go_sem] max2_int min2_int max_two min_two max_three min_three max_four min_four   -- for this text's walks alone
set_option linter.unusedVariables false
set_option linter.unusedSimpArgs false

/-! ### gladstoneref60_Encode: function 8 -/
mutual
def gladstoneref60_Encode.j0 : Nat → ByteArray → Int → Bool → Option (ByteArray × Int)
  | 0, _, _, _ => none
  | k + 1, x0, x1, x17 => if x17 = true then (some ((⟨#[]⟩ : ByteArray), 1)) else ((gladstoneref60_fresh.f k).bind fun t154 => (gladstoneref60_Encode.l0 k x0 x1 t154 ([] : List Bool)))
def gladstoneref60_Encode.l0 : Nat → ByteArray → Int → List ByteArray → List Bool → Option (ByteArray × Int)
  | 0, _, _, _, _ => none
  | k + 1, x0, x1, x6, x7 => if x0.toList = ([] : List UInt8) then ((gladstoneref01_Bytes.f k x7).bind fun t157 => (some (t157, 0))) else ((gladstoneref60_longest.f k x6 x0).bind fun t158 => ((gladstoneref60_bits.f k (x6.length : Int)).bind fun t159 => ((gladstoneref01_Put.f k x7 (IntKind.u64.wrap (t158)) t159).bind fun bt160 => (if 0 ≤ t158 then (if t158 < (x6.length : Int) then (if ((rdOf ByteArray.empty x6 t158).size : Int) < (x0.size : Int) then (if 0 ≤ (IntKind.u64.wrap (x1)) then (if (x6.length : Int) < (shl .i64 1 (IntKind.u64.wrap (x1))) then (if 0 ≤ (wrap64 (((rdOf ByteArray.empty x6 t158).size : Int) + 1)) then (if (wrap64 (((rdOf ByteArray.empty x6 t158).size : Int) + 1)) ≤ (x0.size : Int) then (if x6.length < 8796093022208 then (if 0 ≤ ((rdOf ByteArray.empty x6 t158).size : Int) then (if ((rdOf ByteArray.empty x6 t158).size : Int) ≤ (x0.size : Int) then (gladstoneref60_Encode.l0 k (x0.extract (rdOf ByteArray.empty x6 t158).size x0.size) x1 (x6 ++ [x0.extract 0 ((wrap64 (((rdOf ByteArray.empty x6 t158).size : Int) + 1)) : Int).toNat]) bt160.1) else (none)) else (none)) else (none)) else (none)) else (none)) else (if 0 ≤ ((rdOf ByteArray.empty x6 t158).size : Int) then (if ((rdOf ByteArray.empty x6 t158).size : Int) ≤ (x0.size : Int) then (gladstoneref60_Encode.l0 k (x0.extract (rdOf ByteArray.empty x6 t158).size x0.size) x1 x6 bt160.1) else (none)) else (none))) else (none)) else (if 0 ≤ ((rdOf ByteArray.empty x6 t158).size : Int) then (if ((rdOf ByteArray.empty x6 t158).size : Int) ≤ (x0.size : Int) then (gladstoneref60_Encode.l0 k (x0.extract (rdOf ByteArray.empty x6 t158).size x0.size) x1 x6 bt160.1) else (none)) else (none))) else (none)) else (none)))))
end
def gladstoneref60_Encode.f (k : Nat) (a0 : ByteArray) (a1 : Int) : Option (ByteArray × Int) := if a1 < 9 then (gladstoneref60_Encode.j0 k a0 a1 true) else (gladstoneref60_Encode.j0 k a0 a1 (decide (a1 > 16)))
theorem gladstoneref60_Encode.mono_l : ∀ k, (∀ y0 y1 y2, LeO (gladstoneref60_Encode.j0 k y0 y1 y2) (gladstoneref60_Encode.j0 (k + 1) y0 y1 y2)) ∧ (∀ y0 y1 y2 y3, LeO (gladstoneref60_Encode.l0 k y0 y1 y2 y3) (gladstoneref60_Encode.l0 (k + 1) y0 y1 y2 y3))
  | 0 => ⟨fun _ _ _ r h => by simp [gladstoneref60_Encode.j0] at h, fun _ _ _ _ r h => by simp [gladstoneref60_Encode.l0] at h⟩
  | k + 1 => by
    obtain ⟨ih0, ih1⟩ := gladstoneref60_Encode.mono_l k
    refine ⟨?_, ?_⟩
    · intro y0 y1 y2
      unfold gladstoneref60_Encode.j0
      repeat' first
      | (with_reducible exact ih0 _ _ _)
      | (with_reducible exact ih1 _ _ _ _)
      | (with_reducible exact gladstoneref01_Bytes.mono _ _)
      | (with_reducible exact gladstoneref01_Put.mono _ _ _ _)
      | (with_reducible exact gladstoneref60_bits.mono _ _)
      | (with_reducible exact gladstoneref60_fresh.mono _)
      | (with_reducible exact gladstoneref60_longest.mono _ _ _)
      | (with_reducible exact LeO.refl _)
      | (with_reducible exact LeO.none _)
      | (with_reducible refine LeO.ite ?_ ?_)
      | (with_reducible refine LeO.bind ?_ (fun _ => ?_))
      | exact ih0 _ _ _
      | exact ih1 _ _ _ _
      | exact gladstoneref01_Bytes.mono _ _
      | exact gladstoneref01_Put.mono _ _ _ _
      | exact gladstoneref60_bits.mono _ _
      | exact gladstoneref60_fresh.mono _
      | exact gladstoneref60_longest.mono _ _ _
      | exact LeO.none _
      | refine LeO.ite ?_ ?_
      | refine LeO.bind ?_ (fun _ => ?_)
    · intro y0 y1 y2 y3
      unfold gladstoneref60_Encode.l0
      repeat' first
      | (with_reducible exact ih0 _ _ _)
      | (with_reducible exact ih1 _ _ _ _)
      | (with_reducible exact gladstoneref01_Bytes.mono _ _)
      | (with_reducible exact gladstoneref01_Put.mono _ _ _ _)
      | (with_reducible exact gladstoneref60_bits.mono _ _)
      | (with_reducible exact gladstoneref60_fresh.mono _)
      | (with_reducible exact gladstoneref60_longest.mono _ _ _)
      | (with_reducible exact LeO.refl _)
      | (with_reducible exact LeO.none _)
      | (with_reducible refine LeO.ite ?_ ?_)
      | (with_reducible refine LeO.bind ?_ (fun _ => ?_))
      | exact ih0 _ _ _
      | exact ih1 _ _ _ _
      | exact gladstoneref01_Bytes.mono _ _
      | exact gladstoneref01_Put.mono _ _ _ _
      | exact gladstoneref60_bits.mono _ _
      | exact gladstoneref60_fresh.mono _
      | exact gladstoneref60_longest.mono _ _ _
      | exact LeO.none _
      | refine LeO.ite ?_ ?_
      | refine LeO.bind ?_ (fun _ => ?_)
theorem gladstoneref60_Encode.mono : ∀ a0 a1 k, LeO (gladstoneref60_Encode.f k a0 a1) (gladstoneref60_Encode.f (k + 1) a0 a1) := by
  intro a0 a1 k
  obtain ⟨ih0, ih1⟩ := gladstoneref60_Encode.mono_l k
  unfold gladstoneref60_Encode.f
  repeat' first
      | (with_reducible exact ih0 _ _ _)
      | (with_reducible exact ih1 _ _ _ _)
      | (with_reducible exact gladstoneref01_Bytes.mono _ _)
      | (with_reducible exact gladstoneref01_Put.mono _ _ _ _)
      | (with_reducible exact gladstoneref60_bits.mono _ _)
      | (with_reducible exact gladstoneref60_fresh.mono _)
      | (with_reducible exact gladstoneref60_longest.mono _ _ _)
      | (with_reducible exact LeO.refl _)
      | (with_reducible exact LeO.none _)
      | (with_reducible refine LeO.ite ?_ ?_)
      | (with_reducible refine LeO.bind ?_ (fun _ => ?_))
      | exact ih0 _ _ _
      | exact ih1 _ _ _ _
      | exact gladstoneref01_Bytes.mono _ _
      | exact gladstoneref01_Put.mono _ _ _ _
      | exact gladstoneref60_bits.mono _ _
      | exact gladstoneref60_fresh.mono _
      | exact gladstoneref60_longest.mono _ _ _
      | exact LeO.none _
      | refine LeO.ite ?_ ?_
      | refine LeO.bind ?_ (fun _ => ?_)
set_option maxHeartbeats 8000000 in
set_option maxRecDepth 100000 in
theorem gladstoneref60_Encode.calls (k : Nat) (a0 : ByteArray) (a1 : Int) (r1 : ByteArray) (r2 : Int) (w : World) (h : gladstoneref60_Encode.f k a0 a1 = some (r1, r2)) :
    Calls Try.prog 8 #[.string a0, .int .i64 a1] w fun e w' => e = .returned (.tuple #[.string r1, .int .i64 r2]) ∧ Below w.heap.size w w' := by
  have HB := Aside0.mk (Below.refl w.heap.size w)
  have H : (if a1 < 9 then (gladstoneref60_Encode.j0 k a0 a1 true) else (gladstoneref60_Encode.j0 k a0 a1 (decide (a1 > 16)))) = some (r1, r2) := h
  clear h
  have HC3 := Aside0.mk H
  clear H
  go_enter Try.func8, Try.ntmps8
  go_upto_region 1 with (fail)
  go_cut [17] (fun v17 wc => ∃ (kq : Nat) (x17_2 : Bool), v17 = .bool x17_2 ∧ Aside0 (gladstoneref60_Encode.j0 kq a0 a1 x17_2 = some (r1, r2)) ∧ Aside0 (kq ≤ k) ∧ Aside0 (Below w.heap.size w wc))
  case first =>
    have H := HC3.out
    clear HC3
    by_cases c4 : a1 < 9
    · rw [if_pos c4] at H
      have c4b0 : decide (a1 < 9) = true := decide_eq_true c4
      clear c4
      (first | rw [c4b0] | (simp only [i64_w, i32_w]; rw [c4b0]) | skip)
      have H' := Aside0.mk H
      clear H
      go_wp2
      go_meet
      case rel => exact ⟨_, (true), (by first | rfl | (simp; done) | (simp [*]; done)), H', ⟨by first | omega | exact Nat.le_refl _⟩, ⟨by repeat (first | (with_reducible first | exact HB.out | apply below_alloc | apply pw_below_drewN | apply below_drew1) | exact HB.out)⟩⟩
    · rw [if_neg c4] at H
      have c4b0 : decide (a1 < 9) = false := decide_eq_false c4
      clear c4
      (first | rw [c4b0] | (simp only [i64_w, i32_w]; rw [c4b0]) | skip)
      have H' := Aside0.mk H
      clear H
      go_wp2
      go_meet
      case rel => exact ⟨_, (decide (a1 > 16)), (by first | rfl | (simp; done) | (simp [*]; done)), H', ⟨by first | omega | exact Nat.le_refl _⟩, ⟨by repeat (first | (with_reducible first | exact HB.out | apply below_alloc | apply pw_below_drewN | apply below_drew1) | exact HB.out)⟩⟩
  case rest =>
    clear HC3
    try clear p2
    try clear c4
    try clear c4b0
    obtain ⟨kq, x17_2, rfl, HA, HJ2, HB⟩ := hcut
    cases kq with
    | zero => exact absurd HA.out (by simp [gladstoneref60_Encode.j0])
    | succ kj2 =>
      have H := HA.out
      clear HA
      simp only [gladstoneref60_Encode.j0] at H
      by_cases c5 : x17_2 = true
      · subst c5
        have H1 : (some ((⟨#[]⟩ : ByteArray), 1)) = some (r1, r2) := by rw [if_pos rfl] at H; exact H
        clear H
        have H := H1
        clear H1
        simp only [Option.some.injEq, Prod.mk.injEq] at H
        obtain ⟨rfl, rfl⟩ := H
        go_wp2
        go_ret2
        exact ⟨by first | rfl | (simp [errW_none, errW_some] <;> rfl) | (simp [*, errW_none, errW_some] <;> rfl), by repeat (first | (with_reducible first | exact HB.out | apply below_alloc | apply pw_below_drewN | apply below_drew1) | exact HB.out)⟩
      · replace c5 := Bool.eq_false_iff.mpr c5
        subst c5
        have H1 : ((gladstoneref60_fresh.f kj2).bind fun t154 => (gladstoneref60_Encode.l0 kj2 a0 a1 t154 ([] : List Bool))) = some (r1, r2) := by rw [if_neg (show ¬ (false = true) by decide)] at H; exact H
        clear H
        have H := H1
        clear H1
        replace H := Option.bind_eq_some_iff.mp H
        obtain ⟨t154, A60, H⟩ := H
        replace H : (gladstoneref60_Encode.l0 kj2 a0 a1 t154 ([] : List Bool)) = some (r1, r2) := H
        have A6 := Aside0.mk A60
        clear A60
        have H' := Aside0.mk H
        clear H
        go_wp2_with (first | ((with_reducible refine gate_callee (f := 15) rfl ?_); refine goesL_ (some 18) rfl rfl Try.func15 (by kernel_rfl) rfl #[] rfl (by (try simp only [List.map_toArray, List.map_cons, List.map_nil]); first | done | rfl | (simp only [List.length_drop, List.length_take]; rfl)) ?_; (with_reducible refine (gladstoneref60_fresh.calls kj2  t154 _ A6.out).mono ?_); rintro e w7 ⟨v155, rfl, ho0, hb⟩; refine ⟨_, rfl, ?_⟩; have n0_ := Aside0.mk (Kd.R_lower ho0 (below_size (by repeat (first | (with_reducible first | exact HB.out | apply below_alloc | apply pw_below_drewN | apply below_drew1) | exact HB.out)))); have n1_ := Aside0.mk (below_step (by repeat (first | (with_reducible first | exact HB.out | apply below_alloc | apply pw_below_drewN | apply below_drew1) | exact HB.out)) hb); clear HB; have HO156 := n0_; have HB := n1_; clear n0_ n1_; (try clear hb); (try clear hb2); (try clear hk); (try clear hi); (try clear ho0)))
        go_loopg [0, 6, 7] kj2 (fun kq v0 v6 v7 w' => ∃ (x0_2 : ByteArray) (x6_2 : List ByteArray) (x7_2 : List Bool), v0 = .string x0_2 ∧ Aside0 (gladstoneref60_Encode.l0 kq x0_2 a1 x6_2 x7_2 = some (r1, r2)) ∧ Aside0 (kq ≤ kj2) ∧ Aside0 (Kd.R Kd.string 9 w' w.heap.size (fun _ => True) v6 x6_2) ∧ Aside0 (Kd.R Kd.bool 4 w' w.heap.size (fun _ => True) v7 x7_2) ∧ Aside0 (Below w.heap.size w w'))
        case atStart => exact ⟨(a0), (t154), (([] : List Bool)), (by first | rfl | (simp; done) | (simp [*]; done)), H', ⟨Nat.le_refl _⟩, ⟨by (with_reducible repeat (first | apply Kd.R_alloc | apply Kd.R_drewN | apply Kd.R_drew)); exact HO156.out⟩, ⟨by first | exact Kd.R_nil _ _ _ _ _ | exact Kd.N_nil _ _ _ _ _ | exact Kd.V_nil _ _ _ _ _ | exact Kd.Q_nil _ _ _ _ _ | exact Kd.S_nil _ _ _ _ _⟩, ⟨by repeat (first | (with_reducible first | exact HB.out | apply below_alloc | apply pw_below_drewN | apply below_drew1) | exact HB.out)⟩⟩
        case round =>
          clear H'
          try clear c1
          try clear p2
          try clear c4
          try clear c4b0
          try clear c5
          try clear p2
          obtain ⟨x0_2, x6_2, x7_2, rfl, HA, HK2, HO_6, HO_7, HB⟩ := hrel
          cases gk with
          | zero => exact absurd HA.out (by simp [gladstoneref60_Encode.l0])
          | succ k2 =>
            have H := HA.out
            clear HA
            simp only [gladstoneref60_Encode.l0] at H
            by_cases c8 : x0_2.toList = ([] : List UInt8)
            · rw [if_pos c8] at H
              have c8b0 : (x0_2.toList == ([] : List UInt8)) = true := beq_iff_eq.mpr c8
              have c8b1 : (x0_2.toList != ([] : List UInt8)) = false := bne_eq_false_iff_eq.mpr c8
              clear c8
              replace H := Option.bind_eq_some_iff.mp H
              obtain ⟨t157, A90, H⟩ := H
              replace H : (some (t157, 0)) = some (r1, r2) := H
              have A9 := Aside0.mk A90
              clear A90
              simp only [Option.some.injEq, Prod.mk.injEq] at H
              obtain ⟨rfl, rfl⟩ := H
              obtain ⟨Ao10, co10, eo10⟩ := Kd.R_slice HO_7.out
              subst eo10
              go_wp2_with (first | ((with_reducible refine gate_callee (f := 19) rfl ?_); refine goesL_ (some 63) rfl rfl Try.func19 (by kernel_rfl) rfl #[.slice Ao10 x7_2.length co10] rfl (by (try simp only [List.map_toArray, List.map_cons, List.map_nil]); first | done | rfl | (simp only [List.length_drop, List.length_take]; rfl)) ?_; (with_reducible refine (gladstoneref01_Bytes.calls k2 _ _ x7_2 t157 _ ?side1 ?side2 A9.out).mono ?_); (case side1 => repeat (first | exact (Kd.R_reads' HO_7.out).2.2 | (with_reducible refine Kd.C_alloc ?_ _) | (with_reducible refine Kd.C_drewN ?_ _) | (with_reducible refine Kd.C_drew ?_))); (case side2 => exact (Kd.R_reads' HO_7.out).2.1); rintro e w11 ⟨rfl, hb⟩; refine ⟨_, rfl, ?_⟩; have n0_ := Aside0.mk (Kd.R_below (by (with_reducible repeat (first | apply Kd.R_alloc | apply Kd.R_drewN | apply Kd.R_drew)); exact HO_6.out) hb); have n1_ := Aside0.mk (Kd.R_below (by (with_reducible repeat (first | apply Kd.R_alloc | apply Kd.R_drewN | apply Kd.R_drew)); exact HO_7.out) hb); have n2_ := Aside0.mk (below_step (by repeat (first | (with_reducible first | exact HB.out | apply below_alloc | apply pw_below_drewN | apply below_drew1) | exact HB.out)) hb); clear HO_6; clear HO_7; clear HB; have HO_6 := n0_; have HO_7 := n1_; have HB := n2_; clear n0_ n1_ n2_; (try clear hb); (try clear hb2); (try clear hk); (try clear hi)))
              go_ret2
              exact ⟨by first | rfl | (simp [errW_none, errW_some] <;> rfl) | (simp [*, errW_none, errW_some] <;> rfl), by repeat (first | (with_reducible first | exact HB.out | apply below_alloc | apply pw_below_drewN | apply below_drew1) | exact HB.out)⟩
            · rw [if_neg c8] at H
              have c8b0 : (x0_2.toList == ([] : List UInt8)) = false := beq_eq_false_iff_ne.mpr c8
              have c8b1 : (x0_2.toList != ([] : List UInt8)) = true := bne_iff_ne.mpr c8
              replace H := Option.bind_eq_some_iff.mp H
              obtain ⟨t158, A120, H⟩ := H
              replace H : ((gladstoneref60_bits.f k2 (x6_2.length : Int)).bind fun t159 => ((gladstoneref01_Put.f k2 x7_2 (IntKind.u64.wrap (t158)) t159).bind fun bt160 => (if 0 ≤ t158 then (if t158 < (x6_2.length : Int) then (if ((rdOf ByteArray.empty x6_2 t158).size : Int) < (x0_2.size : Int) then (if 0 ≤ (IntKind.u64.wrap (a1)) then (if (x6_2.length : Int) < (shl .i64 1 (IntKind.u64.wrap (a1))) then (if 0 ≤ (wrap64 (((rdOf ByteArray.empty x6_2 t158).size : Int) + 1)) then (if (wrap64 (((rdOf ByteArray.empty x6_2 t158).size : Int) + 1)) ≤ (x0_2.size : Int) then (if x6_2.length < 8796093022208 then (if 0 ≤ ((rdOf ByteArray.empty x6_2 t158).size : Int) then (if ((rdOf ByteArray.empty x6_2 t158).size : Int) ≤ (x0_2.size : Int) then (gladstoneref60_Encode.l0 k2 (x0_2.extract (rdOf ByteArray.empty x6_2 t158).size x0_2.size) a1 (x6_2 ++ [x0_2.extract 0 ((wrap64 (((rdOf ByteArray.empty x6_2 t158).size : Int) + 1)) : Int).toNat]) bt160.1) else (none)) else (none)) else (none)) else (none)) else (none)) else (if 0 ≤ ((rdOf ByteArray.empty x6_2 t158).size : Int) then (if ((rdOf ByteArray.empty x6_2 t158).size : Int) ≤ (x0_2.size : Int) then (gladstoneref60_Encode.l0 k2 (x0_2.extract (rdOf ByteArray.empty x6_2 t158).size x0_2.size) a1 x6_2 bt160.1) else (none)) else (none))) else (none)) else (if 0 ≤ ((rdOf ByteArray.empty x6_2 t158).size : Int) then (if ((rdOf ByteArray.empty x6_2 t158).size : Int) ≤ (x0_2.size : Int) then (gladstoneref60_Encode.l0 k2 (x0_2.extract (rdOf ByteArray.empty x6_2 t158).size x0_2.size) a1 x6_2 bt160.1) else (none)) else (none))) else (none)) else (none)))) = some (r1, r2) := H
              have A12 := Aside0.mk A120
              clear A120
              replace H := Option.bind_eq_some_iff.mp H
              obtain ⟨t159, A130, H⟩ := H
              replace H : ((gladstoneref01_Put.f k2 x7_2 (IntKind.u64.wrap (t158)) t159).bind fun bt160 => (if 0 ≤ t158 then (if t158 < (x6_2.length : Int) then (if ((rdOf ByteArray.empty x6_2 t158).size : Int) < (x0_2.size : Int) then (if 0 ≤ (IntKind.u64.wrap (a1)) then (if (x6_2.length : Int) < (shl .i64 1 (IntKind.u64.wrap (a1))) then (if 0 ≤ (wrap64 (((rdOf ByteArray.empty x6_2 t158).size : Int) + 1)) then (if (wrap64 (((rdOf ByteArray.empty x6_2 t158).size : Int) + 1)) ≤ (x0_2.size : Int) then (if x6_2.length < 8796093022208 then (if 0 ≤ ((rdOf ByteArray.empty x6_2 t158).size : Int) then (if ((rdOf ByteArray.empty x6_2 t158).size : Int) ≤ (x0_2.size : Int) then (gladstoneref60_Encode.l0 k2 (x0_2.extract (rdOf ByteArray.empty x6_2 t158).size x0_2.size) a1 (x6_2 ++ [x0_2.extract 0 ((wrap64 (((rdOf ByteArray.empty x6_2 t158).size : Int) + 1)) : Int).toNat]) bt160.1) else (none)) else (none)) else (none)) else (none)) else (none)) else (if 0 ≤ ((rdOf ByteArray.empty x6_2 t158).size : Int) then (if ((rdOf ByteArray.empty x6_2 t158).size : Int) ≤ (x0_2.size : Int) then (gladstoneref60_Encode.l0 k2 (x0_2.extract (rdOf ByteArray.empty x6_2 t158).size x0_2.size) a1 x6_2 bt160.1) else (none)) else (none))) else (none)) else (if 0 ≤ ((rdOf ByteArray.empty x6_2 t158).size : Int) then (if ((rdOf ByteArray.empty x6_2 t158).size : Int) ≤ (x0_2.size : Int) then (gladstoneref60_Encode.l0 k2 (x0_2.extract (rdOf ByteArray.empty x6_2 t158).size x0_2.size) a1 x6_2 bt160.1) else (none)) else (none))) else (none)) else (none))) = some (r1, r2) := H
              have A13 := Aside0.mk A130
              clear A130
              replace H := Option.bind_eq_some_iff.mp H
              obtain ⟨⟨t160, t163⟩, A140, H⟩ := H
              replace H : (if 0 ≤ t158 then (if t158 < (x6_2.length : Int) then (if ((rdOf ByteArray.empty x6_2 t158).size : Int) < (x0_2.size : Int) then (if 0 ≤ (IntKind.u64.wrap (a1)) then (if (x6_2.length : Int) < (shl .i64 1 (IntKind.u64.wrap (a1))) then (if 0 ≤ (wrap64 (((rdOf ByteArray.empty x6_2 t158).size : Int) + 1)) then (if (wrap64 (((rdOf ByteArray.empty x6_2 t158).size : Int) + 1)) ≤ (x0_2.size : Int) then (if x6_2.length < 8796093022208 then (if 0 ≤ ((rdOf ByteArray.empty x6_2 t158).size : Int) then (if ((rdOf ByteArray.empty x6_2 t158).size : Int) ≤ (x0_2.size : Int) then (gladstoneref60_Encode.l0 k2 (x0_2.extract (rdOf ByteArray.empty x6_2 t158).size x0_2.size) a1 (x6_2 ++ [x0_2.extract 0 ((wrap64 (((rdOf ByteArray.empty x6_2 t158).size : Int) + 1)) : Int).toNat]) t160) else (none)) else (none)) else (none)) else (none)) else (none)) else (if 0 ≤ ((rdOf ByteArray.empty x6_2 t158).size : Int) then (if ((rdOf ByteArray.empty x6_2 t158).size : Int) ≤ (x0_2.size : Int) then (gladstoneref60_Encode.l0 k2 (x0_2.extract (rdOf ByteArray.empty x6_2 t158).size x0_2.size) a1 x6_2 t160) else (none)) else (none))) else (none)) else (if 0 ≤ ((rdOf ByteArray.empty x6_2 t158).size : Int) then (if ((rdOf ByteArray.empty x6_2 t158).size : Int) ≤ (x0_2.size : Int) then (gladstoneref60_Encode.l0 k2 (x0_2.extract (rdOf ByteArray.empty x6_2 t158).size x0_2.size) a1 x6_2 t160) else (none)) else (none))) else (none)) else (none)) = some (r1, r2) := H
              have A14 := Aside0.mk A140
              clear A140
              by_cases c15 : 0 ≤ t158
              · rw [if_pos c15] at H
                have c15b0 : decide (0 ≤ t158) = true := decide_eq_true c15
                clear c15
                by_cases c16 : t158 < (x6_2.length : Int)
                · rw [if_pos c16] at H
                  have c16b0 : decide (t158 < (x6_2.length : Int)) = true := decide_eq_true c16
                  clear c16
                  by_cases c17 : ((rdOf ByteArray.empty x6_2 t158).size : Int) < (x0_2.size : Int)
                  · rw [if_pos c17] at H
                    have c17b0 : decide (((rdOf ByteArray.empty x6_2 t158).size : Int) < (x0_2.size : Int)) = true := decide_eq_true c17
                    have c17b1 : decide ((rdOf ByteArray.empty x6_2 t158).size < x0_2.size) = true := decide_eq_true (Int.ofNat_lt.mp c17)
                    clear c17
                    obtain ⟨ji18, hji18⟩ : ∃ j_ : Int, (IntKind.u64.wrap (a1)) = j_ := ⟨_, rfl⟩
                    replace H : (if 0 ≤ (ji18) then (if (x6_2.length : Int) < (shl .i64 1 (ji18)) then (if 0 ≤ (wrap64 (((rdOf ByteArray.empty x6_2 t158).size : Int) + 1)) then (if (wrap64 (((rdOf ByteArray.empty x6_2 t158).size : Int) + 1)) ≤ (x0_2.size : Int) then (if x6_2.length < 8796093022208 then (if 0 ≤ ((rdOf ByteArray.empty x6_2 t158).size : Int) then (if ((rdOf ByteArray.empty x6_2 t158).size : Int) ≤ (x0_2.size : Int) then (gladstoneref60_Encode.l0 k2 (x0_2.extract (rdOf ByteArray.empty x6_2 t158).size x0_2.size) a1 (x6_2 ++ [x0_2.extract 0 ((wrap64 (((rdOf ByteArray.empty x6_2 t158).size : Int) + 1)) : Int).toNat]) t160) else (none)) else (none)) else (none)) else (none)) else (none)) else (if 0 ≤ ((rdOf ByteArray.empty x6_2 t158).size : Int) then (if ((rdOf ByteArray.empty x6_2 t158).size : Int) ≤ (x0_2.size : Int) then (gladstoneref60_Encode.l0 k2 (x0_2.extract (rdOf ByteArray.empty x6_2 t158).size x0_2.size) a1 x6_2 t160) else (none)) else (none))) else (none)) = some (r1, r2) := by first | (rw [hji18] at H; exact H) | (simp only [hji18] at H ⊢; exact H)
                    (try rw [hji18] at A12)
                    (try rw [hji18] at A13)
                    (try rw [hji18] at A14)
                    by_cases c19 : 0 ≤ (ji18)
                    · rw [if_pos c19] at H
                      have c19b0 := eq_true c19
                      have c19b1 : decide (0 ≤ (ji18)) = true := decide_eq_true c19
                      clear c19
                      obtain ⟨ji20, hji20⟩ : ∃ j_ : Int, (shl .i64 1 (ji18)) = j_ := ⟨_, rfl⟩
                      replace H : (if (x6_2.length : Int) < (ji20) then (if 0 ≤ (wrap64 (((rdOf ByteArray.empty x6_2 t158).size : Int) + 1)) then (if (wrap64 (((rdOf ByteArray.empty x6_2 t158).size : Int) + 1)) ≤ (x0_2.size : Int) then (if x6_2.length < 8796093022208 then (if 0 ≤ ((rdOf ByteArray.empty x6_2 t158).size : Int) then (if ((rdOf ByteArray.empty x6_2 t158).size : Int) ≤ (x0_2.size : Int) then (gladstoneref60_Encode.l0 k2 (x0_2.extract (rdOf ByteArray.empty x6_2 t158).size x0_2.size) a1 (x6_2 ++ [x0_2.extract 0 ((wrap64 (((rdOf ByteArray.empty x6_2 t158).size : Int) + 1)) : Int).toNat]) t160) else (none)) else (none)) else (none)) else (none)) else (none)) else (if 0 ≤ ((rdOf ByteArray.empty x6_2 t158).size : Int) then (if ((rdOf ByteArray.empty x6_2 t158).size : Int) ≤ (x0_2.size : Int) then (gladstoneref60_Encode.l0 k2 (x0_2.extract (rdOf ByteArray.empty x6_2 t158).size x0_2.size) a1 x6_2 t160) else (none)) else (none))) = some (r1, r2) := by first | (rw [hji20] at H; exact H) | (simp only [hji20] at H ⊢; exact H)
                      (try rw [hji20] at A12)
                      (try rw [hji20] at A13)
                      (try rw [hji20] at A14)
                      have hji20_ : (IntKind.i64.wrap (1 * 2 ^ min (ji18).toNat 64)) = ji20 := hji20
                      have hji20z : (ji18) ≤ 64 → (IntKind.i64.wrap (1 * 2 ^ (ji18).toNat)) = ji20 := shl_small hji20
                      have hji20u : (IntKind.i64.wrap (2 ^ min (ji18).toNat 64)) = ji20 := by have h_ := hji20_; rw [Int.one_mul] at h_; exact h_
                      have hji20v : (ji18) ≤ 64 → (IntKind.i64.wrap (2 ^ (ji18).toNat)) = ji20 := fun hle_ => by have h_ := hji20z hle_; rw [Int.one_mul] at h_; exact h_
                      have hji20y : (wrap64 (1 * 2 ^ min (ji18).toNat 64)) = ji20 := (i64_w _).symm.trans hji20_
                      have hji20x : (ji18) ≤ 64 → (wrap64 (1 * 2 ^ (ji18).toNat)) = ji20 := fun h_ => (i64_w _).symm.trans (hji20z h_)
                      by_cases c21 : (x6_2.length : Int) < (ji20)
                      · rw [if_pos c21] at H
                        have c21b0 : decide ((x6_2.length : Int) < (ji20)) = true := decide_eq_true c21
                        clear c21
                        obtain ⟨ji22, hji22⟩ : ∃ j_ : Int, (wrap64 (((rdOf ByteArray.empty x6_2 t158).size : Int) + 1)) = j_ := ⟨_, rfl⟩
                        replace H : (if 0 ≤ (ji22) then (if (ji22) ≤ (x0_2.size : Int) then (if x6_2.length < 8796093022208 then (if 0 ≤ ((rdOf ByteArray.empty x6_2 t158).size : Int) then (if ((rdOf ByteArray.empty x6_2 t158).size : Int) ≤ (x0_2.size : Int) then (gladstoneref60_Encode.l0 k2 (x0_2.extract (rdOf ByteArray.empty x6_2 t158).size x0_2.size) a1 (x6_2 ++ [x0_2.extract 0 ((ji22) : Int).toNat]) t160) else (none)) else (none)) else (none)) else (none)) else (none)) = some (r1, r2) := by first | (rw [hji22] at H; exact H) | (simp only [hji22] at H ⊢; exact H)
                        (try rw [hji22] at A12)
                        (try rw [hji22] at A13)
                        (try rw [hji22] at A14)
                        have hji22w : (IntKind.i64.wrap (((rdOf ByteArray.empty x6_2 t158).size : Int) + 1)) = ji22 := (i64_w _).trans hji22
                        by_cases c23 : 0 ≤ (ji22)
                        · rw [if_pos c23] at H
                          have c23b0 := eq_true c23
                          have c23b1 : decide (0 ≤ (ji22)) = true := decide_eq_true c23
                          clear c23
                          by_cases c24 : (ji22) ≤ (x0_2.size : Int)
                          · rw [if_pos c24] at H
                            have c24b0 := eq_true c24
                            have c24b1 : decide ((ji22) ≤ (x0_2.size : Int)) = true := decide_eq_true c24
                            clear c24
                            by_cases c25 : x6_2.length < 8796093022208
                            · rw [if_pos c25] at H
                              have LMc25 := Aside0.mk c25
                              clear c25
                              obtain ⟨y165, hy165⟩ : ∃ y_ : List ByteArray, y_ = (x6_2 ++ [x0_2.extract 0 ((ji22) : Int).toNat]) := ⟨_, rfl⟩
                              replace H : (if 0 ≤ ((rdOf ByteArray.empty x6_2 t158).size : Int) then (if ((rdOf ByteArray.empty x6_2 t158).size : Int) ≤ (x0_2.size : Int) then (gladstoneref60_Encode.l0 k2 (x0_2.extract (rdOf ByteArray.empty x6_2 t158).size x0_2.size) a1 y165 t160) else (none)) else (none)) = some (r1, r2) := by first | (rw [hy165]; with_reducible exact H) | (have H2_ := (Option.bind_some _ _).symm.trans H; rw [hy165]; with_reducible exact H2_) | (have H2_ := (Option.bind_some _ _).symm.trans H; with_reducible exact H2_) | with_reducible exact H | (rw [hy165]; exact H) | exact H
                              have Ny165 := Aside0.mk hy165
                              clear hy165
                              by_cases c26 : 0 ≤ ((rdOf ByteArray.empty x6_2 t158).size : Int)
                              · rw [if_pos c26] at H
                                have c26b0 := eq_true c26
                                have c26b1 : decide (0 ≤ ((rdOf ByteArray.empty x6_2 t158).size : Int)) = true := decide_eq_true c26
                                clear c26
                                by_cases c27 : ((rdOf ByteArray.empty x6_2 t158).size : Int) ≤ (x0_2.size : Int)
                                · rw [if_pos c27] at H
                                  have c27b0 := eq_true c27
                                  have c27b1 : decide (((rdOf ByteArray.empty x6_2 t158).size : Int) ≤ (x0_2.size : Int)) = true := decide_eq_true c27
                                  clear c27
                                  have H' := Aside0.mk H
                                  clear H
                                  obtain ⟨Ao28, co28, eo28⟩ := Kd.R_slice HO_6.out
                                  subst eo28
                                  go_wp2_with (first | ((with_reducible refine gate_callee (f := 16) rfl ?_); refine goesL_ (some 23) rfl rfl Try.func16 (by kernel_rfl) rfl #[.slice Ao28 x6_2.length co28, .string x0_2] rfl (by (try simp only [List.map_toArray, List.map_cons, List.map_nil]); first | done | rfl | (simp only [List.length_drop, List.length_take]; rfl)) ?_; (with_reducible refine (gladstoneref60_longest.calls k2 _ _ x6_2 x0_2 t158 _ ?side1 ?side2 A12.out).mono ?_); (case side1 => repeat (first | exact (Kd.R_reads' HO_6.out).2.2 | (with_reducible refine Kd.C_alloc ?_ _) | (with_reducible refine Kd.C_drewN ?_ _) | (with_reducible refine Kd.C_drew ?_))); (case side2 => exact (Kd.R_reads' HO_6.out).2.1); rintro e w' ⟨rfl, ⟨nd, rfl⟩⟩; refine ⟨_, rfl, ?_⟩) | ((with_reducible refine gate_callee (f := 18) rfl ?_); refine goesL_ (some 30) rfl rfl Try.func18 (by kernel_rfl) rfl #[.int .i64 (x6_2.length : Int)] rfl (by (try simp only [List.map_toArray, List.map_cons, List.map_nil]); first | done | rfl | (simp only [List.length_drop, List.length_take]; rfl)) ?_; (with_reducible refine (gladstoneref60_bits.calls k2 (x6_2.length : Int) t159 _ A13.out).mono ?_); rintro e w' ⟨rfl, ⟨nd, rfl⟩⟩; refine ⟨_, rfl, ?_⟩; obtain ⟨Ao29, co29, eo29⟩ := Kd.R_slice HO_7.out; subst eo29) | ((with_reducible refine gate_callee (f := 17) rfl ?_); refine goesL_ (some 31) rfl rfl Try.func17 (by kernel_rfl) rfl #[.slice Ao29 x7_2.length co29, .int .u64 (IntKind.u64.wrap (t158)), .int .i64 t159] rfl (by (try simp only [List.map_toArray, List.map_cons, List.map_nil]); first | done | rfl | (simp only [List.length_drop, List.length_take]; rfl)) ?_; (with_reducible refine (gladstoneref01_Put.calls k2 (fun k_ => some k_ = (.slice Ao29 x7_2.length co29 : Value).ownBlock) (.slice Ao29 x7_2.length co29) x7_2 (IntKind.u64.wrap (t158)) t159 t160 t163 w _ ?side1 ?side2 A14.out).mono ?_); (case side1 => repeat (first | (with_reducible first | exact HB.out | apply below_alloc | apply pw_below_drewN | apply below_drew1) | exact HB.out)); (case side2 => exact Kd.R_tight rfl HO_7.out); rintro e w30 ⟨v161, rfl, ho0, hb, hkp⟩; refine ⟨_, rfl, ?_⟩; have n0_ := Aside0.mk (Kd.R_mono (ok' := fun k_ => True) (Kd.R_keptB ((Kd.R_apart' HO_6.out (Kd.R_typed HO_7.out) (by decide))) hkp (fun k_ hk_ hs_ => (hk_.2) hs_)) (fun k_ hk_ => trivial)); have n1_ := Aside0.mk (Kd.R_mono (ok' := fun k_ => True) ho0 (fun k_ hk_ => trivial)); have n2_ := Aside0.mk (hb); clear HO_6; clear HB; clear HO_7; have HO_6 := n0_; have HO162 := n1_; have HB := n2_; clear n0_ n1_ n2_; (try clear hb); (try clear hkp); (try clear ho0); have p164 : 0 ≤ (t158 : Int) := of_decide_eq_true (by first | (with_reducible assumption) | assumption); have q164 : t158 < (x6_2.length : Int) := of_decide_eq_true (by first | (with_reducible assumption) | assumption); obtain ⟨ad164, e164, hx164_0⟩ := Kd.at_string (Kd.R_reads' HO_6.out).2.2 t158 p164 q164; cases e164; replace p164 := eq_true p164; replace q164 := eq_true q164) | ((with_reducible refine gate_builtin (b := .append) (xs := #[.tmp 52, .tmp 57]) rfl ?_); (try (refine gate_guard (by rfl) ?_; dsimp only)); at_builtin; refine Kd.R_append Kd.string (w0 := w) w.heap.size rfl (.tmp 52) (.tmp 57) 46 9 (.string ⟨#[]⟩) 16 rfl Try.underlying46 info9 rfl (by decide) (by omega) (.slice (some ad164) x6_2.length co28) x6_2 (x0_2.extract 0 ((ji22) : Int).toNat) [.string (x0_2.extract 0 ((ji22) : Int).toNat)] (fun _ => True) (fun _ => False) rfl rfl ?aP (fun _ hk => hk.elim) ?aF ?aO ?aB ?aS ?aL ?_; (case aP => exact rfl); (case aB => exact (by repeat (first | (with_reducible first | exact HB.out | apply below_alloc | apply pw_below_drewN | apply below_drew1) | exact HB.out))); (case aF => exact (fun _ _ => trivial)); (case aO => exact (by (with_reducible repeat (first | apply Kd.R_alloc | apply Kd.R_drewN | apply Kd.R_drew)); exact HO_6.out)); (case aS => exact (below_size (by repeat (first | (with_reducible first | exact HB.out | apply below_alloc | apply pw_below_drewN | apply below_drew1) | exact HB.out)))); (case aL => have := LMc25.out; omega); intro v166 w31 ho hb hg hat; rw [← Ny165.out] at ho; have n0_ := Aside0.mk (Kd.R_over' (by (with_reducible repeat (first | apply Kd.R_alloc | apply Kd.R_drewN | apply Kd.R_drew)); exact HO162.out) (Kd.R_typed (by (with_reducible repeat (first | apply Kd.R_alloc | apply Kd.R_drewN | apply Kd.R_drew)); exact HO_6.out)) (by decide) hg); have n1_ := Aside0.mk (hb); have n2_ := Aside0.mk (ho); clear HO162; clear HB; clear HO_6; have HO162 := n0_; have HB := n1_; have HO167 := n2_; clear n0_ n1_ n2_; clear ho hb hg hat))
                                  go_roundg k2
                                  case measure => have := HJ2.out; have := HK2.out; omega
                                  case rel => exact ⟨(x0_2.extract (rdOf ByteArray.empty x6_2 t158).size x0_2.size), (y165), (t160), (by first | rfl | (simp; done) | (simp [*]; done)), H', ⟨by have := HJ2.out; have := HK2.out; omega⟩, ⟨by (with_reducible repeat (first | apply Kd.R_alloc | apply Kd.R_drewN | apply Kd.R_drew)); exact HO167.out⟩, ⟨by (with_reducible repeat (first | apply Kd.R_alloc | apply Kd.R_drewN | apply Kd.R_drew)); exact HO162.out⟩, ⟨by repeat (first | (with_reducible first | exact HB.out | apply below_alloc | apply pw_below_drewN | apply below_drew1) | exact HB.out)⟩⟩
                                · rw [if_neg c27] at H
                                  exact absurd H (by simp)
                              · rw [if_neg c26] at H
                                exact absurd H (by simp)
                            · rw [if_neg c25] at H
                              exact absurd H (by simp)
                          · rw [if_neg c24] at H
                            exact absurd H (by simp)
                        · rw [if_neg c23] at H
                          exact absurd H (by simp)
                      · rw [if_neg c21] at H
                        have c21b0 : decide ((x6_2.length : Int) < (ji20)) = false := decide_eq_false c21
                        clear c21
                        by_cases c32 : 0 ≤ ((rdOf ByteArray.empty x6_2 t158).size : Int)
                        · rw [if_pos c32] at H
                          have c32b0 := eq_true c32
                          have c32b1 : decide (0 ≤ ((rdOf ByteArray.empty x6_2 t158).size : Int)) = true := decide_eq_true c32
                          clear c32
                          by_cases c33 : ((rdOf ByteArray.empty x6_2 t158).size : Int) ≤ (x0_2.size : Int)
                          · rw [if_pos c33] at H
                            have c33b0 := eq_true c33
                            have c33b1 : decide (((rdOf ByteArray.empty x6_2 t158).size : Int) ≤ (x0_2.size : Int)) = true := decide_eq_true c33
                            clear c33
                            have H' := Aside0.mk H
                            clear H
                            obtain ⟨Ao34, co34, eo34⟩ := Kd.R_slice HO_6.out
                            subst eo34
                            go_wp2_with (first | ((with_reducible refine gate_callee (f := 16) rfl ?_); refine goesL_ (some 23) rfl rfl Try.func16 (by kernel_rfl) rfl #[.slice Ao34 x6_2.length co34, .string x0_2] rfl (by (try simp only [List.map_toArray, List.map_cons, List.map_nil]); first | done | rfl | (simp only [List.length_drop, List.length_take]; rfl)) ?_; (with_reducible refine (gladstoneref60_longest.calls k2 _ _ x6_2 x0_2 t158 _ ?side1 ?side2 A12.out).mono ?_); (case side1 => repeat (first | exact (Kd.R_reads' HO_6.out).2.2 | (with_reducible refine Kd.C_alloc ?_ _) | (with_reducible refine Kd.C_drewN ?_ _) | (with_reducible refine Kd.C_drew ?_))); (case side2 => exact (Kd.R_reads' HO_6.out).2.1); rintro e w' ⟨rfl, ⟨nd, rfl⟩⟩; refine ⟨_, rfl, ?_⟩) | ((with_reducible refine gate_callee (f := 18) rfl ?_); refine goesL_ (some 30) rfl rfl Try.func18 (by kernel_rfl) rfl #[.int .i64 (x6_2.length : Int)] rfl (by (try simp only [List.map_toArray, List.map_cons, List.map_nil]); first | done | rfl | (simp only [List.length_drop, List.length_take]; rfl)) ?_; (with_reducible refine (gladstoneref60_bits.calls k2 (x6_2.length : Int) t159 _ A13.out).mono ?_); rintro e w' ⟨rfl, ⟨nd, rfl⟩⟩; refine ⟨_, rfl, ?_⟩; obtain ⟨Ao35, co35, eo35⟩ := Kd.R_slice HO_7.out; subst eo35) | ((with_reducible refine gate_callee (f := 17) rfl ?_); refine goesL_ (some 31) rfl rfl Try.func17 (by kernel_rfl) rfl #[.slice Ao35 x7_2.length co35, .int .u64 (IntKind.u64.wrap (t158)), .int .i64 t159] rfl (by (try simp only [List.map_toArray, List.map_cons, List.map_nil]); first | done | rfl | (simp only [List.length_drop, List.length_take]; rfl)) ?_; (with_reducible refine (gladstoneref01_Put.calls k2 (fun k_ => some k_ = (.slice Ao35 x7_2.length co35 : Value).ownBlock) (.slice Ao35 x7_2.length co35) x7_2 (IntKind.u64.wrap (t158)) t159 t160 t163 w _ ?side1 ?side2 A14.out).mono ?_); (case side1 => repeat (first | (with_reducible first | exact HB.out | apply below_alloc | apply pw_below_drewN | apply below_drew1) | exact HB.out)); (case side2 => exact Kd.R_tight rfl HO_7.out); rintro e w36 ⟨v161, rfl, ho0, hb, hkp⟩; refine ⟨_, rfl, ?_⟩; have n0_ := Aside0.mk (Kd.R_mono (ok' := fun k_ => True) (Kd.R_keptB ((Kd.R_apart' HO_6.out (Kd.R_typed HO_7.out) (by decide))) hkp (fun k_ hk_ hs_ => (hk_.2) hs_)) (fun k_ hk_ => trivial)); have n1_ := Aside0.mk (Kd.R_mono (ok' := fun k_ => True) ho0 (fun k_ hk_ => trivial)); have n2_ := Aside0.mk (hb); clear HO_6; clear HB; clear HO_7; have HO_6 := n0_; have HO162 := n1_; have HB := n2_; clear n0_ n1_ n2_; (try clear hb); (try clear hkp); (try clear ho0); have p164 : 0 ≤ (t158 : Int) := of_decide_eq_true (by first | (with_reducible assumption) | assumption); have q164 : t158 < (x6_2.length : Int) := of_decide_eq_true (by first | (with_reducible assumption) | assumption); obtain ⟨ad164, e164, hx164_0⟩ := Kd.at_string (Kd.R_reads' HO_6.out).2.2 t158 p164 q164; cases e164; replace p164 := eq_true p164; replace q164 := eq_true q164))
                            go_roundg k2
                            case measure => have := HJ2.out; have := HK2.out; omega
                            case rel => exact ⟨(x0_2.extract (rdOf ByteArray.empty x6_2 t158).size x0_2.size), (x6_2), (t160), (by first | rfl | (simp; done) | (simp [*]; done)), H', ⟨by have := HJ2.out; have := HK2.out; omega⟩, ⟨by (with_reducible repeat (first | apply Kd.R_alloc | apply Kd.R_drewN | apply Kd.R_drew)); exact HO_6.out⟩, ⟨by (with_reducible repeat (first | apply Kd.R_alloc | apply Kd.R_drewN | apply Kd.R_drew)); exact HO162.out⟩, ⟨by repeat (first | (with_reducible first | exact HB.out | apply below_alloc | apply pw_below_drewN | apply below_drew1) | exact HB.out)⟩⟩
                          · rw [if_neg c33] at H
                            exact absurd H (by simp)
                        · rw [if_neg c32] at H
                          exact absurd H (by simp)
                    · rw [if_neg c19] at H
                      exact absurd H (by simp)
                  · rw [if_neg c17] at H
                    have c17b0 : decide (((rdOf ByteArray.empty x6_2 t158).size : Int) < (x0_2.size : Int)) = false := decide_eq_false c17
                    have c17b1 : decide ((rdOf ByteArray.empty x6_2 t158).size < x0_2.size) = false := decide_eq_false (fun h => c17 (Int.ofNat_lt.mpr h))
                    clear c17
                    by_cases c37 : 0 ≤ ((rdOf ByteArray.empty x6_2 t158).size : Int)
                    · rw [if_pos c37] at H
                      have c37b0 := eq_true c37
                      have c37b1 : decide (0 ≤ ((rdOf ByteArray.empty x6_2 t158).size : Int)) = true := decide_eq_true c37
                      clear c37
                      by_cases c38 : ((rdOf ByteArray.empty x6_2 t158).size : Int) ≤ (x0_2.size : Int)
                      · rw [if_pos c38] at H
                        have c38b0 := eq_true c38
                        have c38b1 : decide (((rdOf ByteArray.empty x6_2 t158).size : Int) ≤ (x0_2.size : Int)) = true := decide_eq_true c38
                        clear c38
                        have H' := Aside0.mk H
                        clear H
                        obtain ⟨Ao39, co39, eo39⟩ := Kd.R_slice HO_6.out
                        subst eo39
                        go_wp2_with (first | ((with_reducible refine gate_callee (f := 16) rfl ?_); refine goesL_ (some 23) rfl rfl Try.func16 (by kernel_rfl) rfl #[.slice Ao39 x6_2.length co39, .string x0_2] rfl (by (try simp only [List.map_toArray, List.map_cons, List.map_nil]); first | done | rfl | (simp only [List.length_drop, List.length_take]; rfl)) ?_; (with_reducible refine (gladstoneref60_longest.calls k2 _ _ x6_2 x0_2 t158 _ ?side1 ?side2 A12.out).mono ?_); (case side1 => repeat (first | exact (Kd.R_reads' HO_6.out).2.2 | (with_reducible refine Kd.C_alloc ?_ _) | (with_reducible refine Kd.C_drewN ?_ _) | (with_reducible refine Kd.C_drew ?_))); (case side2 => exact (Kd.R_reads' HO_6.out).2.1); rintro e w' ⟨rfl, ⟨nd, rfl⟩⟩; refine ⟨_, rfl, ?_⟩) | ((with_reducible refine gate_callee (f := 18) rfl ?_); refine goesL_ (some 30) rfl rfl Try.func18 (by kernel_rfl) rfl #[.int .i64 (x6_2.length : Int)] rfl (by (try simp only [List.map_toArray, List.map_cons, List.map_nil]); first | done | rfl | (simp only [List.length_drop, List.length_take]; rfl)) ?_; (with_reducible refine (gladstoneref60_bits.calls k2 (x6_2.length : Int) t159 _ A13.out).mono ?_); rintro e w' ⟨rfl, ⟨nd, rfl⟩⟩; refine ⟨_, rfl, ?_⟩; obtain ⟨Ao40, co40, eo40⟩ := Kd.R_slice HO_7.out; subst eo40) | ((with_reducible refine gate_callee (f := 17) rfl ?_); refine goesL_ (some 31) rfl rfl Try.func17 (by kernel_rfl) rfl #[.slice Ao40 x7_2.length co40, .int .u64 (IntKind.u64.wrap (t158)), .int .i64 t159] rfl (by (try simp only [List.map_toArray, List.map_cons, List.map_nil]); first | done | rfl | (simp only [List.length_drop, List.length_take]; rfl)) ?_; (with_reducible refine (gladstoneref01_Put.calls k2 (fun k_ => some k_ = (.slice Ao40 x7_2.length co40 : Value).ownBlock) (.slice Ao40 x7_2.length co40) x7_2 (IntKind.u64.wrap (t158)) t159 t160 t163 w _ ?side1 ?side2 A14.out).mono ?_); (case side1 => repeat (first | (with_reducible first | exact HB.out | apply below_alloc | apply pw_below_drewN | apply below_drew1) | exact HB.out)); (case side2 => exact Kd.R_tight rfl HO_7.out); rintro e w41 ⟨v161, rfl, ho0, hb, hkp⟩; refine ⟨_, rfl, ?_⟩; have n0_ := Aside0.mk (Kd.R_mono (ok' := fun k_ => True) (Kd.R_keptB ((Kd.R_apart' HO_6.out (Kd.R_typed HO_7.out) (by decide))) hkp (fun k_ hk_ hs_ => (hk_.2) hs_)) (fun k_ hk_ => trivial)); have n1_ := Aside0.mk (Kd.R_mono (ok' := fun k_ => True) ho0 (fun k_ hk_ => trivial)); have n2_ := Aside0.mk (hb); clear HO_6; clear HB; clear HO_7; have HO_6 := n0_; have HO162 := n1_; have HB := n2_; clear n0_ n1_ n2_; (try clear hb); (try clear hkp); (try clear ho0); have p164 : 0 ≤ (t158 : Int) := of_decide_eq_true (by first | (with_reducible assumption) | assumption); have q164 : t158 < (x6_2.length : Int) := of_decide_eq_true (by first | (with_reducible assumption) | assumption); obtain ⟨ad164, e164, hx164_0⟩ := Kd.at_string (Kd.R_reads' HO_6.out).2.2 t158 p164 q164; cases e164; replace p164 := eq_true p164; replace q164 := eq_true q164))
                        go_roundg k2
                        case measure => have := HJ2.out; have := HK2.out; omega
                        case rel => exact ⟨(x0_2.extract (rdOf ByteArray.empty x6_2 t158).size x0_2.size), (x6_2), (t160), (by first | rfl | (simp; done) | (simp [*]; done)), H', ⟨by have := HJ2.out; have := HK2.out; omega⟩, ⟨by (with_reducible repeat (first | apply Kd.R_alloc | apply Kd.R_drewN | apply Kd.R_drew)); exact HO_6.out⟩, ⟨by (with_reducible repeat (first | apply Kd.R_alloc | apply Kd.R_drewN | apply Kd.R_drew)); exact HO162.out⟩, ⟨by repeat (first | (with_reducible first | exact HB.out | apply below_alloc | apply pw_below_drewN | apply below_drew1) | exact HB.out)⟩⟩
                      · rw [if_neg c38] at H
                        exact absurd H (by simp)
                    · rw [if_neg c37] at H
                      exact absurd H (by simp)
                · rw [if_neg c16] at H
                  exact absurd H (by simp)
              · rw [if_neg c15] at H
                exact absurd H (by simp)

end Go.Proofs.Ytnmggblhbodfgaa.P
