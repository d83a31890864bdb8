/- Words of this seat. -/
import Derived.Test.YtdifgiceallpiaaDoorXPrx0
import Derived.Test.YtdifgiceallpiaaDoorXPureZerosS
import Derived.Test.YtdifgiceallpiaaDoorXPureMtfS
set_option linter.unusedVariables false
set_option linter.unusedSimpArgs false
set_option linter.unusedSectionVars false
section
-- Laid by this session's driver (wip/tools/myprint.py) over the kit's print program.
namespace Go.Proofs.YtdifgiceallpiaaDoor.Pa
end Go.Proofs.YtdifgiceallpiaaDoor.Pa
namespace Go.Proofs.YtdifgiceallpiaaDoor.Hd
end Go.Proofs.YtdifgiceallpiaaDoor.Hd
namespace Go.Proofs.YtdifgiceallpiaaDoor.Pr
open Go.RowKit YtdifgiceallpiaaDoor.Pa YtdifgiceallpiaaDoor.Hd YtdifgiceallpiaaDoorW.PrintWords YtdifgiceallpiaaDoorW.PrintLast YtdifgiceallpiaaDoorW.PrintMore
attribute [local go_sem] za9 za8 zbi zbj za0 za1 zba zbb   -- for this text's walks alone
def zax.l0 : Nat → Int → List Int → Option (List Int)
 | 0, _, _ => none
 | k + 1, x0, x3 => if x0 > 0 then (if x3.length < 17592186044416 then (zax.l0 k (wrap64 (Int.tdiv (wrap64 ((wrap64 (x0 - 1)) - (Int.tmod (wrap64 (x0 - 1)) 2))) 2)) (x3 ++ [Int.tmod (wrap64 (x0 - 1)) 2])) else (none)) else (some x3)
def zax.f (k : Nat) (a0 : Int) : Option (List Int) := zax.l0 k a0 ([] : List Int)
theorem zax.calls (k : Nat) (a0 : Int) (r : List Int) (w : World) (h : zax.f k a0 = some r) :
  Calls Tryd.prog 31 #[.int .i64 a0] w fun e w' => ∃ v0_ : Value, e = .returned (v0_) ∧ Kd.R (Kd.int .i64) 3 w' w.heap.size (fun _ => True) v0_ r ∧ Below w.heap.size w w' := by
 have HB := zaa.mk (Below.refl w.heap.size w)
 have H : (zax.l0 k a0 ([] : List Int)) = some r := h
 clear h
 have H' := zaa.mk H
 clear H
 go_enter Tryd.func31, Tryd.ntmps31
 go_wp2
 go_loopg [0, 3] k (fun kq v0 v3 w' => ∃ (x0_1 : Int) (x3_1 : List Int), v0 = .int .i64 x0_1 ∧ zaa (zax.l0 kq x0_1 x3_1 = some r) ∧ zaa (kq ≤ k) ∧ zaa (Kd.R (Kd.int .i64) 3 w' w.heap.size (fun _ => True) v3 x3_1) ∧ zaa (Below w.heap.size w w'))
 case atStart => exact ⟨(a0), (([] : List Int)), rfl, H', ⟨Nat.le_refl _⟩, ⟨by first | exact Kd.R_nil _ _ _ _ _ | exact Kd.N_nil _ _ _ _ _ | exact Kd.V_nil _ _ _ _ _ | exact Kd.Q_nil _ _ _ _ _ | exact Kd.S_nil _ _ _ _ _⟩, ⟨by repeat (first | exact HB.out | apply zac | apply zab | apply zad)⟩⟩
 case round =>
  clear H'
  obtain ⟨x0_1, x3_1, rfl, HA, HK1, HO_3, HB⟩ := hrel
  cases gk with
  | zero => exact absurd HA.out (by simp [zax.l0])
  | succ k1 =>
   have H := HA.out
   clear HA
   simp only [zax.l0] at H
   by_cases c2 : x0_1 > 0
   ·rw [if_pos c2] at H
    have c2b0 : decide (0 < x0_1) = true := decide_eq_true c2
    clear c2
    by_cases c3 : x3_1.length < 17592186044416
    ·rw [if_pos c3] at H
     have LMc3 := zaa.mk c3
     clear c3
     obtain ⟨y112, hy112⟩ : ∃ y_ : List Int, y_ = (x3_1 ++ [Int.tmod (wrap64 (x0_1 - 1)) 2]) := ⟨_, rfl⟩
     replace H : (zax.l0 k1 (wrap64 (Int.tdiv (wrap64 ((wrap64 (x0_1 - 1)) - (Int.tmod (wrap64 (x0_1 - 1)) 2))) 2)) y112) = some r := by first | (rw [hy112]; with_reducible exact H) | (have H2_ := (Option.bind_some _ _).symm.trans H; rw [hy112]; with_reducible exact H2_) | (have H2_ := (Option.bind_some _ _).symm.trans H; with_reducible exact H2_) | with_reducible exact H | (rw [hy112]; exact H) | exact H
     have Ny112 := zaa.mk hy112
     clear hy112
     have H' := zaa.mk H
     clear H
     go_wp2_with (first | ((with_reducible refine zaw (b := .append) (xs := #[.tmp 10, .tmp 12]) rfl ?_); at_builtin; refine Kd.R_append (Kd.int .i64) (w0 := w) w.heap.size rfl (.tmp 10) (.tmp 12) 29 3 (.int .i64 0) 8 rfl Tryd.underlying29 info3 rfl (by decide) (by omega) u3 x3_1 (Int.tmod (wrap64 (x0_1 - 1)) 2) [.int .i64 (Int.tmod (wrap64 (x0_1 - 1)) 2)] (fun _ => True) (fun _ => False) rfl rfl ?aP (fun _ hk => hk.elim) ?aF ?aO ?aB ?aS ?aL ?_; (case aP => exact rfl); (case aB => exact HB.out); (case aF => exact (fun _ _ => trivial)); (case aO => exact HO_3.out); (case aS => exact (zam HB.out)); (case aL => have := LMc3.out; omega); intro v113 w4 ho hb hg hat; rw [← Ny112.out] at ho; have n0_ := zaa.mk (hb); have n1_ := zaa.mk (ho); clear HB; clear HO_3; have HB := n0_; have HO114 := n1_; clear n0_ n1_; clear ho hb hg hat))
     go_roundg k1
     case measure => have := HK1.out; omega
     case rel => exact ⟨(wrap64 (Int.tdiv (wrap64 ((wrap64 (x0_1 - 1)) - (Int.tmod (wrap64 (x0_1 - 1)) 2))) 2)), (y112), rfl, H', ⟨by have := HK1.out; omega⟩, ⟨by (with_reducible repeat (first | apply Kd.R_alloc | apply Kd.R_drewN | apply Kd.R_drew)); exact HO114.out⟩, ⟨by repeat (first | exact HB.out | apply zac | apply zab | apply zad)⟩⟩
    ·rw [if_neg c3] at H
     exact absurd H (by simp)
   ·rw [if_neg c2] at H
    have c2b0 : decide (0 < x0_1) = false := decide_eq_false c2
    clear c2
    obtain rfl := Option.some.inj H
    go_wp2
    go_ret
    exact ⟨_, rfl, by (with_reducible repeat (first | apply Kd.R_alloc | apply Kd.R_drewN | apply Kd.R_drew)); exact HO_3.out, by repeat (first | exact HB.out | apply zac | apply zab | apply zad)⟩
mutual
def zak.l0 : Nat → List Int → Int → Option (List Int × Int)
 | 0, _, _ => none
 | k + 1, x0, x4 => if x4 < (x0.length : Int) then (if 0 ≤ x4 then (if (rd x0 x4) < 0 then (some (([] : List Int), 2)) else (if (rd x0 x4) > 1048576 then (some (([] : List Int), 2)) else (zak.l0 k x0 (wrap64 (x4 + 1))))) else (none)) else (zak.l1 k x0 ([] : List Int) 0 0)
def zak.l1 : Nat → List Int → List Int → Int → Int → Option (List Int × Int)
 | 0, _, _, _, _ => none
 | k + 1, x0, x5, x6, x7 => if x7 < (x0.length : Int) then (if 0 ≤ x7 then (if (rd x0 x7) = 0 then (zak.l1 k x0 x5 (wrap64 (x6 + 1)) (wrap64 (x7 + 1))) else ((zax.f k x6).bind fun t118 => (if x5.length + t118.length < 17592186044416 then ((some (x5 ++ t118 : List Int)).bind fun y121 => (if y121.length < 17592186044416 then (zak.l1 k x0 (y121 ++ [wrap64 ((rd x0 x7) + 1)]) 0 (wrap64 (x7 + 1))) else (none))) else (none)))) else (none)) else ((zax.f k x6).bind fun t128 => (if x5.length + t128.length < 17592186044416 then (some ((x5 ++ t128), 0)) else (none)))
end
def zak.f (k : Nat) (l0 : List Int) : Option (List Int × Int) := zak.l0 k l0 0
theorem zak.calls (k : Nat) (A0 : Option Addr) (c0 : Nat) (l0 : List Int) (r1 : List Int) (r2 : Int) (w : World) (hr0 : Kd.C (Kd.int .i64) w A0 l0.length l0) (hc0 : l0.length ≤ c0) (h : zak.f k l0 = some (r1, r2)) :
  Calls Tryd.prog 15 #[.slice A0 l0.length c0] w fun e w' => ∃ v0_ : Value, e = .returned (.tuple #[v0_, .int .i64 r2]) ∧ Kd.R (Kd.int .i64) 3 w' w.heap.size (fun _ => True) v0_ r1 ∧ Below w.heap.size w w' := by
 have HR0 := zaa.mk hr0
 have HC0 := zaa.mk hc0
 clear hr0 hc0
 have HB := zaa.mk (Below.refl w.heap.size w)
 have H : (zak.l0 k l0 0) = some (r1, r2) := h
 clear h
 have H' := zaa.mk H
 clear H
 go_enter Tryd.func15, Tryd.ntmps15
 go_wp2
 go_loopg [4] k (fun kq v4 w' => ∃ (x4_1 : Int), v4 = .int .i64 x4_1 ∧ zaa (zak.l0 kq l0 x4_1 = some (r1, r2)) ∧ zaa (kq ≤ k) ∧ zaa (Below w.heap.size w w'))
 case atStart => exact ⟨(0), rfl, H', ⟨Nat.le_refl _⟩, ⟨by repeat (first | exact HB.out | apply zac | apply zab | apply zad)⟩⟩
 case round =>
  clear H'
  obtain ⟨x4_1, rfl, HA, HK1, HB⟩ := hrel
  cases gk with
  | zero => exact absurd HA.out (by simp [zak.l0])
  | succ k1 =>
   have H := HA.out
   clear HA
   simp only [zak.l0] at H
   by_cases c2 : x4_1 < (l0.length : Int)
   ·rw [if_pos c2] at H
    have c2b0 : decide (x4_1 < (l0.length : Int)) = true := decide_eq_true c2
    clear c2
    by_cases c3 : 0 ≤ x4_1
    ·rw [if_pos c3] at H
     have c3b0 : decide (0 ≤ x4_1) = true := decide_eq_true c3
     clear c3
     by_cases c4 : (rd l0 x4_1) < 0
     ·rw [if_pos c4] at H
      have c4b0 : decide ((rd l0 x4_1) < 0) = true := decide_eq_true c4
      clear c4
      simp only [Option.some.injEq, Prod.mk.injEq] at H
      obtain ⟨rfl, rfl⟩ := H
      have p115 : 0 ≤ (x4_1 : Int) := of_decide_eq_true (by assumption)
      have q115 : x4_1 < (l0.length : Int) := of_decide_eq_true (by assumption)
      obtain ⟨ad115, e115, hx115_0⟩ := Kd.at_int HR0.out x4_1 p115 q115
      cases e115
      replace hx115_0 := (HB.out.cell (World.block_lt_of_cell? w _ hx115_0)).trans hx115_0
      replace p115 := eq_true p115
      replace q115 := eq_true q115
      go_wp2
      go_ret2
      exact ⟨_, rfl, by first | exact Kd.R_nil _ _ _ _ _ | exact Kd.N_nil _ _ _ _ _ | exact Kd.V_nil _ _ _ _ _ | exact Kd.Q_nil _ _ _ _ _ | exact Kd.S_nil _ _ _ _ _, by repeat (first | exact HB.out | apply zac | apply zab | apply zad)⟩
     ·rw [if_neg c4] at H
      have c4b0 : decide ((rd l0 x4_1) < 0) = false := decide_eq_false c4
      clear c4
      by_cases c5 : (rd l0 x4_1) > 1048576
      ·rw [if_pos c5] at H
       have c5b0 : decide (1048576 < (rd l0 x4_1)) = true := decide_eq_true c5
       clear c5
       simp only [Option.some.injEq, Prod.mk.injEq] at H
       obtain ⟨rfl, rfl⟩ := H
       have p115 : 0 ≤ (x4_1 : Int) := of_decide_eq_true (by assumption)
       have q115 : x4_1 < (l0.length : Int) := of_decide_eq_true (by assumption)
       obtain ⟨ad115, e115, hx115_0⟩ := Kd.at_int HR0.out x4_1 p115 q115
       cases e115
       replace hx115_0 := (HB.out.cell (World.block_lt_of_cell? w _ hx115_0)).trans hx115_0
       replace p115 := eq_true p115
       replace q115 := eq_true q115
       have p116 : 0 ≤ (x4_1 : Int) := of_decide_eq_true (by assumption)
       have q116 : x4_1 < (l0.length : Int) := of_decide_eq_true (by assumption)
       obtain ⟨ad116, e116, hx116_0⟩ := Kd.at_int HR0.out x4_1 p116 q116
       obtain rfl : ad115 = ad116 := (by injection e116)
       replace hx116_0 := (HB.out.cell (World.block_lt_of_cell? w _ hx116_0)).trans hx116_0
       replace p116 := eq_true p116
       replace q116 := eq_true q116
       go_wp2
       go_ret2
       exact ⟨_, rfl, by first | exact Kd.R_nil _ _ _ _ _ | exact Kd.N_nil _ _ _ _ _ | exact Kd.V_nil _ _ _ _ _ | exact Kd.Q_nil _ _ _ _ _ | exact Kd.S_nil _ _ _ _ _, by repeat (first | exact HB.out | apply zac | apply zab | apply zad)⟩
      ·rw [if_neg c5] at H
       have c5b0 : decide (1048576 < (rd l0 x4_1)) = false := decide_eq_false c5
       clear c5
       have H' := zaa.mk H
       clear H
       have p115 : 0 ≤ (x4_1 : Int) := of_decide_eq_true (by assumption)
       have q115 : x4_1 < (l0.length : Int) := of_decide_eq_true (by assumption)
       obtain ⟨ad115, e115, hx115_0⟩ := Kd.at_int HR0.out x4_1 p115 q115
       cases e115
       replace hx115_0 := (HB.out.cell (World.block_lt_of_cell? w _ hx115_0)).trans hx115_0
       replace p115 := eq_true p115
       replace q115 := eq_true q115
       have p116 : 0 ≤ (x4_1 : Int) := of_decide_eq_true (by assumption)
       have q116 : x4_1 < (l0.length : Int) := of_decide_eq_true (by assumption)
       obtain ⟨ad116, e116, hx116_0⟩ := Kd.at_int HR0.out x4_1 p116 q116
       obtain rfl : ad115 = ad116 := (by injection e116)
       replace hx116_0 := (HB.out.cell (World.block_lt_of_cell? w _ hx116_0)).trans hx116_0
       replace p116 := eq_true p116
       replace q116 := eq_true q116
       go_wp2
       go_roundg k1
       case measure => have := HK1.out; omega
       case rel => exact ⟨(wrap64 (x4_1 + 1)), rfl, H', ⟨by have := HK1.out; omega⟩, ⟨by repeat (first | exact HB.out | apply zac | apply zab | apply zad)⟩⟩
    ·rw [if_neg c3] at H
     exact absurd H (by simp)
   ·rw [if_neg c2] at H
    have c2b0 : decide (x4_1 < (l0.length : Int)) = false := decide_eq_false c2
    clear c2
    have H' := zaa.mk H
    clear H
    go_wp2
    go_loopg [5, 6, 7] k1 (fun kq v5 v6 v7 w' => ∃ (x5_2 : List Int) (x6_2 : Int) (x7_2 : Int), v6 = .int .i64 x6_2 ∧ v7 = .int .i64 x7_2 ∧ zaa (zak.l1 kq l0 x5_2 x6_2 x7_2 = some (r1, r2)) ∧ zaa (kq ≤ k1) ∧ zaa (Kd.R (Kd.int .i64) 3 w' w.heap.size (fun _ => True) v5 x5_2) ∧ zaa (Below w.heap.size w w'))
    case atStart => exact ⟨(([] : List Int)), (0), (0), rfl, rfl, H', ⟨Nat.le_refl _⟩, ⟨by first | exact Kd.R_nil _ _ _ _ _ | exact Kd.N_nil _ _ _ _ _ | exact Kd.V_nil _ _ _ _ _ | exact Kd.Q_nil _ _ _ _ _ | exact Kd.S_nil _ _ _ _ _⟩, ⟨by repeat (first | exact HB.out | apply zac | apply zab | apply zad)⟩⟩
    case round =>
     clear H'
     obtain ⟨x5_2, x6_2, x7_2, rfl, rfl, HA, HK2, HO_5, HB⟩ := hrel
     cases gk with
     | zero => exact absurd HA.out (by simp [zak.l1])
     | succ k2 =>
      have H := HA.out
      clear HA
      simp only [zak.l1] at H
      by_cases c6 : x7_2 < (l0.length : Int)
      ·rw [if_pos c6] at H
       have c6b0 : decide (x7_2 < (l0.length : Int)) = true := decide_eq_true c6
       clear c6
       by_cases c7 : 0 ≤ x7_2
       ·rw [if_pos c7] at H
        have c7b0 : decide (0 ≤ x7_2) = true := decide_eq_true c7
        clear c7
        by_cases c8 : (rd l0 x7_2) = 0
        ·rw [if_pos c8] at H
         have c8b0 : ((rd l0 x7_2) == 0) = true := beq_iff_eq.mpr c8
         have c8b1 : ((rd l0 x7_2) != 0) = false := bne_eq_false_iff_eq.mpr c8
         clear c8
         have H' := zaa.mk H
         clear H
         have p117 : 0 ≤ (x7_2 : Int) := of_decide_eq_true (by assumption)
         have q117 : x7_2 < (l0.length : Int) := of_decide_eq_true (by assumption)
         obtain ⟨ad117, e117, hx117_0⟩ := Kd.at_int HR0.out x7_2 p117 q117
         cases e117
         replace hx117_0 := (HB.out.cell (World.block_lt_of_cell? w _ hx117_0)).trans hx117_0
         replace p117 := eq_true p117
         replace q117 := eq_true q117
         go_wp2
         go_roundg k2
         case measure => have := HK1.out; have := HK2.out; omega
         case rel => exact ⟨(x5_2), (wrap64 (x6_2 + 1)), (wrap64 (x7_2 + 1)), rfl, rfl, H', ⟨by have := HK1.out; have := HK2.out; omega⟩, ⟨by (with_reducible repeat (first | apply Kd.R_alloc | apply Kd.R_drewN | apply Kd.R_drew)); exact HO_5.out⟩, ⟨by repeat (first | exact HB.out | apply zac | apply zab | apply zad)⟩⟩
        ·rw [if_neg c8] at H
         have c8b0 : ((rd l0 x7_2) == 0) = false := beq_eq_false_iff_ne.mpr c8
         have c8b1 : ((rd l0 x7_2) != 0) = true := bne_iff_ne.mpr c8
         replace H := Option.bind_eq_some_iff.mp H
         obtain ⟨t118, A90, H⟩ := H
         have A9 := zaa.mk A90
         clear A90
         by_cases c10 : x5_2.length + t118.length < 17592186044416
         ·rw [if_pos c10] at H
          have LMc10 := zaa.mk c10
          clear c10
          obtain ⟨y121, hy121⟩ : ∃ y_ : List Int, y_ = (x5_2 ++ t118) := ⟨_, rfl⟩
          replace H : (if y121.length < 17592186044416 then (zak.l1 k2 l0 (y121 ++ [wrap64 ((rd l0 x7_2) + 1)]) 0 (wrap64 (x7_2 + 1))) else (none)) = some (r1, r2) := by first | (rw [hy121]; with_reducible exact H) | (have H2_ := (Option.bind_some _ _).symm.trans H; rw [hy121]; with_reducible exact H2_) | (have H2_ := (Option.bind_some _ _).symm.trans H; with_reducible exact H2_) | with_reducible exact H | (rw [hy121]; exact H) | exact H
          have Ny121 := zaa.mk hy121
          clear hy121
          by_cases c11 : y121.length < 17592186044416
          ·rw [if_pos c11] at H
           have LMc11 := zaa.mk c11
           clear c11
           obtain ⟨y125, hy125⟩ : ∃ y_ : List Int, y_ = (y121 ++ [wrap64 ((rd l0 x7_2) + 1)]) := ⟨_, rfl⟩
           replace H : (zak.l1 k2 l0 y125 0 (wrap64 (x7_2 + 1))) = some (r1, r2) := by first | (rw [hy125]; with_reducible exact H) | (have H2_ := (Option.bind_some _ _).symm.trans H; rw [hy125]; with_reducible exact H2_) | (have H2_ := (Option.bind_some _ _).symm.trans H; with_reducible exact H2_) | with_reducible exact H | (rw [hy125]; exact H) | exact H
           have Ny125 := zaa.mk hy125
           clear hy125
           have H' := zaa.mk H
           clear H
           have p117 : 0 ≤ (x7_2 : Int) := of_decide_eq_true (by assumption)
           have q117 : x7_2 < (l0.length : Int) := of_decide_eq_true (by assumption)
           obtain ⟨ad117, e117, hx117_0⟩ := Kd.at_int HR0.out x7_2 p117 q117
           cases e117
           replace hx117_0 := (HB.out.cell (World.block_lt_of_cell? w _ hx117_0)).trans hx117_0
           replace p117 := eq_true p117
           replace q117 := eq_true q117
           go_wp2_with (first | ((with_reducible refine zbc (f := 31) rfl ?_); refine zb6 (some 41) rfl rfl Tryd.func31 (by kernel_rfl) rfl #[.int .i64 x6_2] rfl (by (try simp only [List.map_toArray, List.map_cons, List.map_nil]); first | done | rfl | (simp only [List.length_drop, List.length_take]; rfl)) ?_; (with_reducible refine (zax.calls k2 x6_2 t118 _ A9.out).mono ?_); rintro e w12 ⟨v119, rfl, ho0, hb⟩; refine ⟨_, rfl, ?_⟩; have n0_ := zaa.mk (Kd.R_elder' HO_5.out (Kd.R_base ho0) hb); have n1_ := zaa.mk (Kd.R_lower (Kd.R_new' ho0 (Kd.R_lt HO_5.out)) (zam HB.out)); have n2_ := zaa.mk (zaf HB.out hb); clear HO_5; clear HB; have HO_5 := n0_; have HO120 := n1_; have HB := n2_; clear n0_ n1_ n2_; (try clear hb); (try clear hb2); (try clear hk); (try clear hi); (try clear ho0); obtain ⟨Ao14, co14, eo14⟩ := Kd.R_slice HO120.out; subst eo14) | ((with_reducible refine zaw (b := .append) (xs := #[.tmp 39, .tmp 41]) rfl ?_); at_builtin; refine Kd.R_append_rows (Kd.int .i64) (w0 := w) w.heap.size rfl (.tmp 39) (.tmp 41) 29 3 (.int .i64 0) 8 rfl Tryd.underlying29 info3 rfl (by decide) (by omega) u5 x5_2 t118 _ _ _ (fun k_ => some k_ ≠ (.slice Ao14 t118.length co14 : Value).ownBlock) (fun _ => False) rfl rfl ?aO ?aR (fun _ _ h => h) (fun _ h => h.elim) ?aF ?aB ?aS ?aL ?_; (case aR => repeat (first | exact (Kd.R_reads' HO120.out).2.2 | (with_reducible refine Kd.C_alloc ?_ _) | (with_reducible refine Kd.C_drewN ?_ _) | (with_reducible refine Kd.C_drew ?_))); (case aB => exact HB.out); (case aF => exact (fun k_ hk => Kd.fresh' (Kd.R_lt HO120.out) k_ hk)); (case aO => exact (by (with_reducible repeat (first | apply Kd.R_alloc | apply Kd.R_drewN | apply Kd.R_drew)); exact Kd.R_mono HO_5.out (fun _ hk => hk.2))); (case aS => exact (zam HB.out)); (case aL => have := LMc10.out; omega); intro v122 w13 ho hb hg hat; rw [← Ny121.out] at ho; have n0_ := zaa.mk (Kd.R_after (ok := (fun _ => True)) HO120.out hg hat); have n1_ := zaa.mk (hb); have n2_ := zaa.mk (ho); clear HO120; clear HB; clear HO_5; have HO120 := n0_; have HB := n1_; have HO123 := n2_; clear n0_ n1_ n2_; clear ho hb hg hat; have p124 : 0 ≤ (x7_2 : Int) := of_decide_eq_true (by assumption); have q124 : x7_2 < (l0.length : Int) := of_decide_eq_true (by assumption); obtain ⟨ad124, e124, hx124_0⟩ := Kd.at_int HR0.out x7_2 p124 q124; obtain rfl : ad117 = ad124 := (by injection e124); replace hx124_0 := (HB.out.cell (World.block_lt_of_cell? w _ hx124_0)).trans hx124_0; replace p124 := eq_true p124; replace q124 := eq_true q124) | ((with_reducible refine zaw (b := .append) (xs := #[.tmp 43, .tmp 49]) rfl ?_); at_builtin; refine Kd.R_append (Kd.int .i64) (w0 := w) w.heap.size rfl (.tmp 43) (.tmp 49) 29 3 (.int .i64 0) 8 rfl Tryd.underlying29 info3 rfl (by decide) (by omega) v122 y121 (wrap64 ((rd l0 x7_2) + 1)) [.int .i64 (wrap64 ((rd l0 x7_2) + 1))] (fun k_ => some k_ ≠ (.slice Ao14 t118.length co14 : Value).ownBlock) (fun _ => False) rfl rfl ?aP (fun _ hk => hk.elim) ?aF ?aO ?aB ?aS ?aL ?_; (case aP => exact rfl); (case aB => exact HB.out); (case aF => exact (fun k_ hk => Kd.fresh' (Kd.R_lt HO120.out) k_ hk)); (case aO => exact HO123.out); (case aS => exact (zam HB.out)); (case aL => have := LMc11.out; omega); intro v126 w15 ho hb hg hat; rw [← Ny125.out] at ho; have n0_ := zaa.mk (Kd.R_after (ok := (fun _ => True)) HO120.out hg hat); have n1_ := zaa.mk (hb); have n2_ := zaa.mk (ho); clear HO120; clear HB; clear HO123; have HO120 := n0_; have HB := n1_; have HO127 := n2_; clear n0_ n1_ n2_; clear ho hb hg hat))
           go_roundg k2
           case measure => have := HK1.out; have := HK2.out; omega
           case rel => exact ⟨(y125), (0), (wrap64 (x7_2 + 1)), rfl, rfl, H', ⟨by have := HK1.out; have := HK2.out; omega⟩, ⟨by (with_reducible repeat (first | apply Kd.R_alloc | apply Kd.R_drewN | apply Kd.R_drew)); exact Kd.R_mono HO127.out (fun _ hk => trivial)⟩, ⟨by repeat (first | exact HB.out | apply zac | apply zab | apply zad)⟩⟩
          ·rw [if_neg c11] at H
           exact absurd H (by simp)
         ·rw [if_neg c10] at H
          exact absurd H (by simp)
       ·rw [if_neg c7] at H
        exact absurd H (by simp)
      ·rw [if_neg c6] at H
       have c6b0 : decide (x7_2 < (l0.length : Int)) = false := decide_eq_false c6
       clear c6
       replace H := Option.bind_eq_some_iff.mp H
       obtain ⟨t128, A160, H⟩ := H
       have A16 := zaa.mk A160
       clear A160
       by_cases c17 : x5_2.length + t128.length < 17592186044416
       ·rw [if_pos c17] at H
        have LMc17 := zaa.mk c17
        clear c17
        obtain ⟨y131, hy131⟩ : ∃ y_ : List Int, y_ = (x5_2 ++ t128) := ⟨_, rfl⟩
        replace H : (some (y131, 0)) = some (r1, r2) := by first | (rw [hy131]; with_reducible exact H) | (have H2_ := (Option.bind_some _ _).symm.trans H; rw [hy131]; with_reducible exact H2_) | (have H2_ := (Option.bind_some _ _).symm.trans H; with_reducible exact H2_) | with_reducible exact H | (rw [hy131]; exact H) | exact H
        have Ny131 := zaa.mk hy131
        clear hy131
        simp only [Option.some.injEq, Prod.mk.injEq] at H
        obtain ⟨rfl, rfl⟩ := H
        go_wp2_with (first | ((with_reducible refine zbc (f := 31) rfl ?_); refine zb6 (some 53) rfl rfl Tryd.func31 (by kernel_rfl) rfl #[.int .i64 x6_2] rfl (by (try simp only [List.map_toArray, List.map_cons, List.map_nil]); first | done | rfl | (simp only [List.length_drop, List.length_take]; rfl)) ?_; (with_reducible refine (zax.calls k2 x6_2 t128 _ A16.out).mono ?_); rintro e w18 ⟨v129, rfl, ho0, hb⟩; refine ⟨_, rfl, ?_⟩; have n0_ := zaa.mk (Kd.R_elder' HO_5.out (Kd.R_base ho0) hb); have n1_ := zaa.mk (Kd.R_lower (Kd.R_new' ho0 (Kd.R_lt HO_5.out)) (zam HB.out)); have n2_ := zaa.mk (zaf HB.out hb); clear HO_5; clear HB; have HO_5 := n0_; have HO130 := n1_; have HB := n2_; clear n0_ n1_ n2_; (try clear hb); (try clear hb2); (try clear hk); (try clear hi); (try clear ho0); obtain ⟨Ao20, co20, eo20⟩ := Kd.R_slice HO130.out; subst eo20) | ((with_reducible refine zaw (b := .append) (xs := #[.tmp 51, .tmp 53]) rfl ?_); at_builtin; refine Kd.R_append_rows (Kd.int .i64) (w0 := w) w.heap.size rfl (.tmp 51) (.tmp 53) 29 3 (.int .i64 0) 8 rfl Tryd.underlying29 info3 rfl (by decide) (by omega) u5 x5_2 t128 _ _ _ (fun k_ => some k_ ≠ (.slice Ao20 t128.length co20 : Value).ownBlock) (fun _ => False) rfl rfl ?aO ?aR (fun _ _ h => h) (fun _ h => h.elim) ?aF ?aB ?aS ?aL ?_; (case aR => repeat (first | exact (Kd.R_reads' HO130.out).2.2 | (with_reducible refine Kd.C_alloc ?_ _) | (with_reducible refine Kd.C_drewN ?_ _) | (with_reducible refine Kd.C_drew ?_))); (case aB => exact HB.out); (case aF => exact (fun k_ hk => Kd.fresh' (Kd.R_lt HO130.out) k_ hk)); (case aO => exact (by (with_reducible repeat (first | apply Kd.R_alloc | apply Kd.R_drewN | apply Kd.R_drew)); exact Kd.R_mono HO_5.out (fun _ hk => hk.2))); (case aS => exact (zam HB.out)); (case aL => have := LMc17.out; omega); intro v132 w19 ho hb hg hat; rw [← Ny131.out] at ho; have n0_ := zaa.mk (Kd.R_after (ok := (fun _ => True)) HO130.out hg hat); have n1_ := zaa.mk (hb); have n2_ := zaa.mk (ho); clear HO130; clear HB; clear HO_5; have HO130 := n0_; have HB := n1_; have HO133 := n2_; clear n0_ n1_ n2_; clear ho hb hg hat))
        go_ret2
        exact ⟨_, rfl, by (with_reducible repeat (first | apply Kd.R_alloc | apply Kd.R_drewN | apply Kd.R_drew)); exact Kd.R_mono HO133.out (fun _ hk => trivial), by repeat (first | exact HB.out | apply zac | apply zab | apply zad)⟩
       ·rw [if_neg c17] at H
        exact absurd H (by simp)
def za4.l0 : Nat → List Int → Int → Option (List Int)
 | 0, _, _ => none
 | k + 1, x1, x2 => if x2 < 256 then (if x1.length < 140737488355328 then (za4.l0 k (x1 ++ [(x2) % 256]) (wrap64 (x2 + 1))) else (none)) else (some x1)
def za4.f (k : Nat)  : Option (List Int) := za4.l0 k ([] : List Int) 0
theorem za4.calls (k : Nat)  (r : List Int) (w : World) (h : za4.f k  = some r) :
  Calls Tryd.prog 32 #[] w fun e w' => ∃ v0_ : Value, e = .returned (v0_) ∧ Kd.R (Kd.int .u8) 5 w' w.heap.size (fun _ => True) v0_ r ∧ Below w.heap.size w w' := by
 have HB := zaa.mk (Below.refl w.heap.size w)
 have H : (za4.l0 k ([] : List Int) 0) = some r := h
 clear h
 have H' := zaa.mk H
 clear H
 go_enter Tryd.func32, Tryd.ntmps32
 go_wp2
 go_loopg [1, 2] k (fun kq v1 v2 w' => ∃ (x1_1 : List Int) (x2_1 : Int), v2 = .int .i64 x2_1 ∧ zaa (za4.l0 kq x1_1 x2_1 = some r) ∧ zaa (kq ≤ k) ∧ zaa (Kd.R (Kd.int .u8) 5 w' w.heap.size (fun _ => True) v1 x1_1) ∧ zaa (Below w.heap.size w w'))
 case atStart => exact ⟨(([] : List Int)), (0), rfl, H', ⟨Nat.le_refl _⟩, ⟨by first | exact Kd.R_nil _ _ _ _ _ | exact Kd.N_nil _ _ _ _ _ | exact Kd.V_nil _ _ _ _ _ | exact Kd.Q_nil _ _ _ _ _ | exact Kd.S_nil _ _ _ _ _⟩, ⟨by repeat (first | exact HB.out | apply zac | apply zab | apply zad)⟩⟩
 case round =>
  clear H'
  obtain ⟨x1_1, x2_1, rfl, HA, HK1, HO_1, HB⟩ := hrel
  cases gk with
  | zero => exact absurd HA.out (by simp [za4.l0])
  | succ k1 =>
   have H := HA.out
   clear HA
   simp only [za4.l0] at H
   by_cases c1 : x2_1 < 256
   ·rw [if_pos c1] at H
    have c1b0 : decide (x2_1 < 256) = true := decide_eq_true c1
    clear c1
    by_cases c2 : x1_1.length < 140737488355328
    ·rw [if_pos c2] at H
     have LMc2 := zaa.mk c2
     clear c2
     obtain ⟨y134, hy134⟩ : ∃ y_ : List Int, y_ = (x1_1 ++ [(x2_1) % 256]) := ⟨_, rfl⟩
     replace H : (za4.l0 k1 y134 (wrap64 (x2_1 + 1))) = some r := by first | (rw [hy134]; with_reducible exact H) | (have H2_ := (Option.bind_some _ _).symm.trans H; rw [hy134]; with_reducible exact H2_) | (have H2_ := (Option.bind_some _ _).symm.trans H; with_reducible exact H2_) | with_reducible exact H | (rw [hy134]; exact H) | exact H
     have Ny134 := zaa.mk hy134
     clear hy134
     have H' := zaa.mk H
     clear H
     go_wp2_with (first | ((with_reducible refine zaw (b := .append) (xs := #[.tmp 7, .tmp 10]) rfl ?_); at_builtin; refine Kd.R_append (Kd.int .u8) (w0 := w) w.heap.size rfl (.tmp 7) (.tmp 10) 48 5 (.int .u8 0) 1 rfl Tryd.underlying48 info5 rfl (by decide) (by omega) u1 x1_1 ((x2_1) % 256) [.int .u8 ((x2_1) % 256)] (fun _ => True) (fun _ => False) rfl rfl ?aP (fun _ hk => hk.elim) ?aF ?aO ?aB ?aS ?aL ?_; (case aP => exact rfl); (case aB => exact HB.out); (case aF => exact (fun _ _ => trivial)); (case aO => exact HO_1.out); (case aS => exact (zam HB.out)); (case aL => have := LMc2.out; omega); intro v135 w3 ho hb hg hat; rw [← Ny134.out] at ho; have n0_ := zaa.mk (hb); have n1_ := zaa.mk (ho); clear HB; clear HO_1; have HB := n0_; have HO136 := n1_; clear n0_ n1_; clear ho hb hg hat))
     go_roundg k1
     case measure => have := HK1.out; omega
     case rel => exact ⟨(y134), (wrap64 (x2_1 + 1)), rfl, H', ⟨by have := HK1.out; omega⟩, ⟨by (with_reducible repeat (first | apply Kd.R_alloc | apply Kd.R_drewN | apply Kd.R_drew)); exact HO136.out⟩, ⟨by repeat (first | exact HB.out | apply zac | apply zab | apply zad)⟩⟩
    ·rw [if_neg c2] at H
     exact absurd H (by simp)
   ·rw [if_neg c1] at H
    have c1b0 : decide (x2_1 < 256) = false := decide_eq_false c1
    clear c1
    obtain rfl := Option.some.inj H
    go_wp2
    go_ret
    exact ⟨_, rfl, by (with_reducible repeat (first | apply Kd.R_alloc | apply Kd.R_drewN | apply Kd.R_drew)); exact HO_1.out, by repeat (first | exact HB.out | apply zac | apply zab | apply zad)⟩
def zbn.f (l0 : List Int) (a1 : Int) : Option (List Int) := if 0 ≤ a1 then (if a1 < (l0.length : Int) then ((some (([rd l0 a1] : List Int) : List Int)).bind fun y138 => (if a1 ≤ (l0.length : Int) then (if y138.length + (l0.take (a1 : Int).toNat).length < 140737488355328 then ((some (y138 ++ (l0.take (a1 : Int).toNat) : List Int)).bind fun y142 => (if 0 ≤ (wrap64 (a1 + 1)) then (if (wrap64 (a1 + 1)) ≤ (l0.length : Int) then (if y142.length + (l0.drop ((wrap64 (a1 + 1)) : Int).toNat).length < 140737488355328 then (some (y142 ++ (l0.drop ((wrap64 (a1 + 1)) : Int).toNat))) else (none)) else (none)) else (none))) else (none)) else (none))) else (none)) else (none)
theorem zbn.calls (A0 : Option Addr) (c0 : Nat) (l0 : List Int) (a1 : Int) (r : List Int) (w : World) (hr0 : Kd.C (Kd.int .u8) w A0 l0.length l0) (hc0 : l0.length ≤ c0) (h : zbn.f l0 a1 = some r) :
  Calls Tryd.prog 33 #[.slice A0 l0.length c0, .int .i64 a1] w fun e w' => ∃ v0_ : Value, e = .returned (v0_) ∧ Kd.R (Kd.int .u8) 5 w' w.heap.size (fun _ => True) v0_ r ∧ Below w.heap.size w w' := by
 have HR0 := zaa.mk hr0
 have HC0 := zaa.mk hc0
 clear hr0 hc0
 have HB := zaa.mk (Below.refl w.heap.size w)
 have H : (if 0 ≤ a1 then (if a1 < (l0.length : Int) then ((some (([rd l0 a1] : List Int) : List Int)).bind fun y138 => (if a1 ≤ (l0.length : Int) then (if y138.length + (l0.take (a1 : Int).toNat).length < 140737488355328 then ((some (y138 ++ (l0.take (a1 : Int).toNat) : List Int)).bind fun y142 => (if 0 ≤ (wrap64 (a1 + 1)) then (if (wrap64 (a1 + 1)) ≤ (l0.length : Int) then (if y142.length + (l0.drop ((wrap64 (a1 + 1)) : Int).toNat).length < 140737488355328 then (some (y142 ++ (l0.drop ((wrap64 (a1 + 1)) : Int).toNat))) else (none)) else (none)) else (none))) else (none)) else (none))) else (none)) else (none)) = some r := h
 clear h
 by_cases c3 : 0 ≤ a1
 ·rw [if_pos c3] at H
  have c3b0 : decide (0 ≤ a1) = true := decide_eq_true c3
  clear c3
  by_cases c4 : a1 < (l0.length : Int)
  ·rw [if_pos c4] at H
   have c4b0 : decide (a1 < (l0.length : Int)) = true := decide_eq_true c4
   clear c4
   obtain ⟨y138, hy138⟩ : ∃ y_ : List Int, y_ = (([rd l0 a1] : List Int)) := ⟨_, rfl⟩
   replace H : (if a1 ≤ (l0.length : Int) then (if y138.length + (l0.take (a1 : Int).toNat).length < 140737488355328 then ((some (y138 ++ (l0.take (a1 : Int).toNat) : List Int)).bind fun y142 => (if 0 ≤ (wrap64 (a1 + 1)) then (if (wrap64 (a1 + 1)) ≤ (l0.length : Int) then (if y142.length + (l0.drop ((wrap64 (a1 + 1)) : Int).toNat).length < 140737488355328 then (some (y142 ++ (l0.drop ((wrap64 (a1 + 1)) : Int).toNat))) else (none)) else (none)) else (none))) else (none)) else (none)) = some r := by first | (rw [hy138]; with_reducible exact H) | (have H2_ := (Option.bind_some _ _).symm.trans H; rw [hy138]; with_reducible exact H2_) | (have H2_ := (Option.bind_some _ _).symm.trans H; with_reducible exact H2_) | with_reducible exact H | (rw [hy138]; exact H) | exact H
   have Ny138 := zaa.mk hy138
   clear hy138
   have c5b0 := eq_true (of_decide_eq_true (by assumption) : 0 ≤ a1)
   by_cases c6 : a1 ≤ (l0.length : Int)
   ·rw [if_pos c6] at H
    have c6b0 := eq_true c6
    have c6b1 : decide (a1 ≤ (l0.length : Int)) = true := decide_eq_true c6
    clear c6
    by_cases c7 : y138.length + (l0.take (a1 : Int).toNat).length < 140737488355328
    ·rw [if_pos c7] at H
     have LMc7 := zaa.mk c7
     clear c7
     obtain ⟨y142, hy142⟩ : ∃ y_ : List Int, y_ = (y138 ++ (l0.take (a1 : Int).toNat)) := ⟨_, rfl⟩
     replace H : (if 0 ≤ (wrap64 (a1 + 1)) then (if (wrap64 (a1 + 1)) ≤ (l0.length : Int) then (if y142.length + (l0.drop ((wrap64 (a1 + 1)) : Int).toNat).length < 140737488355328 then (some (y142 ++ (l0.drop ((wrap64 (a1 + 1)) : Int).toNat))) else (none)) else (none)) else (none)) = some r := by first | (rw [hy142]; with_reducible exact H) | (have H2_ := (Option.bind_some _ _).symm.trans H; rw [hy142]; with_reducible exact H2_) | (have H2_ := (Option.bind_some _ _).symm.trans H; with_reducible exact H2_) | with_reducible exact H | (rw [hy142]; exact H) | exact H
     have Ny142 := zaa.mk hy142
     clear hy142
     obtain ⟨ji8, hji8⟩ : ∃ j_ : Int, (wrap64 (a1 + 1)) = j_ := ⟨_, rfl⟩
     replace H : (if 0 ≤ (ji8) then (if (ji8) ≤ (l0.length : Int) then (if y142.length + (l0.drop ((ji8) : Int).toNat).length < 140737488355328 then (some (y142 ++ (l0.drop ((ji8) : Int).toNat))) else (none)) else (none)) else (none)) = some r := by first | (rw [hji8] at H; exact H) | (simp only [hji8] at H ⊢; exact H)
     have hji8w : (IntKind.i64.wrap (a1 + 1)) = ji8 := (i64_w _).trans hji8
     by_cases c9 : 0 ≤ (ji8)
     ·rw [if_pos c9] at H
      have c9b0 := eq_true c9
      have c9b1 : decide (0 ≤ (ji8)) = true := decide_eq_true c9
      clear c9
      by_cases c10 : (ji8) ≤ (l0.length : Int)
      ·rw [if_pos c10] at H
       have c10b0 := eq_true c10
       have c10b1 : decide ((ji8) ≤ (l0.length : Int)) = true := decide_eq_true c10
       clear c10
       by_cases c11 : y142.length + (l0.drop ((ji8) : Int).toNat).length < 140737488355328
       ·rw [if_pos c11] at H
        have LMc11 := zaa.mk c11
        clear c11
        obtain ⟨y146, hy146⟩ : ∃ y_ : List Int, y_ = (y142 ++ (l0.drop ((ji8) : Int).toNat)) := ⟨_, rfl⟩
        replace H : (some y146) = some r := by first | (rw [hy146]; with_reducible exact H) | (have H2_ := (Option.bind_some _ _).symm.trans H; rw [hy146]; with_reducible exact H2_) | (have H2_ := (Option.bind_some _ _).symm.trans H; with_reducible exact H2_) | with_reducible exact H | (rw [hy146]; exact H) | exact H
        have Ny146 := zaa.mk hy146
        clear hy146
        obtain rfl := Option.some.inj H
        have p137 : 0 ≤ (a1 : Int) := of_decide_eq_true (by assumption)
        have q137 : a1 < (l0.length : Int) := of_decide_eq_true (by assumption)
        obtain ⟨ad137, e137, hx137_0⟩ := Kd.at_int HR0.out a1 p137 q137
        cases e137
        replace p137 := eq_true p137
        replace q137 := eq_true q137
        go_enter Tryd.func33, Tryd.ntmps33
        go_wp2_with (first | ((with_reducible refine zay (N := 10) rfl ?_); refine Kd.R_lit (Kd.int .u8) _ 5 ?hg (N := 10) ?hd (xs := ([rd l0 a1] : List Int)) (inner := [.int .u8 (rd l0 a1)]) (ok := fun _ => True) (okp := fun _ => True) ?hr ?hp (fun _ hk => hk) trivial (Below.refl _ _) (Nat.le_refl _) (by simp) ?_; (case hd => rfl); (case hg => rfl); (case hr => first | (go_simp; done) | (go_simp; rfl)); (case hp => exact (Reps.one (show Kd.M (Kd.int .u8) _ _ _ (rd l0 a1) [.int .u8 (rd l0 a1)] from rfl) (Reps.none _ _))); intro v139 w12 ho13 hb hg_ hnew_; clear hg_ hnew_; (first | rw [← Ny138.out] at ho13 | (simp only [Int.reduceToNat] at ho13; rw [← Ny138.out] at ho13)); have n0_ := zaa.mk (Kd.R_lower ho13 (zam HB.out)); have n1_ := zaa.mk (zaf HB.out hb); clear HB; have HO140 := n0_; have HB := n1_; clear n0_ n1_; clear hb ho13; obtain ⟨i014, hi014, _, hsz14, _⟩ := info_parts info5; obtain ⟨hcut14, hA14, hC14⟩ := print_take_of (P := Tryd.prog) (Value.int .u8) 0 48 5 .i64 Tryd.underlying48 hi014 hsz14 (some ad137) c0 l0 a1 (of_decide_eq_true (by first | (with_reducible assumption) | assumption)) (of_decide_eq_true (by first | (with_reducible assumption) | assumption)) HC0.out; have HR141 := zaa.mk (Kd.C_of_reads (h1 := fun _ => rfl) (hA14 _ (Kd.reads_of_C HR0.out))); have HC141 := zaa.mk hC14; clear hA14 hC14 hi014 hsz14) | ((with_reducible refine zaw (b := .append) (xs := #[.tmp 11, .tmp 14]) rfl ?_); at_builtin; refine Kd.R_append_rows (Kd.int .u8) (w0 := w) w.heap.size rfl (.tmp 11) (.tmp 14) 48 5 (.int .u8 0) 1 rfl Tryd.underlying48 info5 rfl (by decide) (by omega) v139 y138 (l0.take (a1 : Int).toNat) _ _ _ (fun _ => True) (fun _ => False) rfl rfl ?aO ?aR (fun _ _ h => h) (fun _ h => h.elim) ?aF ?aB ?aS ?aL ?_; (case aR => first | (have hm_ := (Kd.C_below HR141.out HB.out); rw [show (l0.take (a1 : Int).toNat).length = a1.toNat from (by rw [List.length_take]; have h_ : (a1 : Int) ≤ (l0.length : Int) := of_decide_eq_true (by first | (with_reducible assumption) | assumption); omega)] at hm_; repeat (first | exact hm_ | (with_reducible refine Kd.C_alloc ?_ _) | (with_reducible refine Kd.C_drewN ?_ _) | (with_reducible refine Kd.C_drew ?_))) | (rw [← show (l0.take (a1 : Int).toNat).length = a1.toNat from (by rw [List.length_take]; have h_ : (a1 : Int) ≤ (l0.length : Int) := of_decide_eq_true (by first | (with_reducible assumption) | assumption); omega)]; repeat (first | exact (Kd.C_below HR141.out HB.out) | (with_reducible refine Kd.C_alloc ?_ _) | (with_reducible refine Kd.C_drewN ?_ _) | (with_reducible refine Kd.C_drew ?_))) | (repeat (first | exact (Kd.C_below HR141.out HB.out) | (with_reducible refine Kd.C_alloc ?_ _) | (with_reducible refine Kd.C_drewN ?_ _) | (with_reducible refine Kd.C_drew ?_)))); (case aB => exact HB.out); (case aF => exact (fun _ _ => trivial)); (case aO => exact HO140.out); (case aS => exact (zam HB.out)); (case aL => have := LMc7.out; have hlx_ := (show (l0.take (a1 : Int).toNat).length = a1.toNat from (by rw [List.length_take]; have h_ : (a1 : Int) ≤ (l0.length : Int) := of_decide_eq_true (by first | (with_reducible assumption) | assumption); omega)); omega); intro v143 w15 ho hb hg hat; rw [← Ny142.out] at ho; have n0_ := zaa.mk (hb); have n1_ := zaa.mk (ho); clear HB; clear HO140; have HB := n0_; have HO144 := n1_; clear n0_ n1_; clear ho hb hg hat; obtain ⟨i016, hi016, _, hsz16, _⟩ := info_parts info5; obtain ⟨A16, hcut16, hA16, hC16⟩ := print_drop_of (P := Tryd.prog) (Value.int .u8) 0 48 5 .i64 Tryd.underlying48 hi016 hsz16 (some ad137) c0 l0 (ji8) (of_decide_eq_true (by first | (with_reducible assumption) | assumption)) (of_decide_eq_true (by first | (with_reducible assumption) | assumption)) HC0.out; have HR145 := zaa.mk (Kd.C_of_reads (h1 := fun _ => rfl) (hA16 _ (Kd.reads_of_C HR0.out))); have HC145 := zaa.mk hC16; clear hA16 hC16 hi016 hsz16) | ((with_reducible refine zaw (b := .append) (xs := #[.tmp 16, .tmp 20]) rfl ?_); at_builtin; refine Kd.R_append_rows (Kd.int .u8) (w0 := w) w.heap.size rfl (.tmp 16) (.tmp 20) 48 5 (.int .u8 0) 1 rfl Tryd.underlying48 info5 rfl (by decide) (by omega) v143 y142 (l0.drop ((ji8) : Int).toNat) _ _ _ (fun _ => True) (fun _ => False) rfl rfl ?aO ?aR (fun _ _ h => h) (fun _ h => h.elim) ?aF ?aB ?aS ?aL ?_; (case aR => first | (rw [← show (l0.drop ((ji8) : Int).toNat).length = (l0.length - (ji8).toNat) from List.length_drop]; repeat (first | exact (Kd.C_below HR145.out HB.out) | (with_reducible refine Kd.C_alloc ?_ _) | (with_reducible refine Kd.C_drewN ?_ _) | (with_reducible refine Kd.C_drew ?_))) | (repeat (first | exact (Kd.C_below HR145.out HB.out) | (with_reducible refine Kd.C_alloc ?_ _) | (with_reducible refine Kd.C_drewN ?_ _) | (with_reducible refine Kd.C_drew ?_)))); (case aB => exact HB.out); (case aF => exact (fun _ _ => trivial)); (case aO => exact HO144.out); (case aS => exact (zam HB.out)); (case aL => have := LMc11.out; have hlx_ := (show (l0.drop ((ji8) : Int).toNat).length = (l0.length - (ji8).toNat) from List.length_drop); omega); intro v147 w17 ho hb hg hat; rw [← Ny146.out] at ho; have n0_ := zaa.mk (hb); have n1_ := zaa.mk (ho); clear HB; clear HO144; have HB := n0_; have HO148 := n1_; clear n0_ n1_; clear ho hb hg hat))
        go_ret
        exact ⟨_, by first | rfl | (simp [errW_none, errW_some] <;> rfl) | (simp only [← hji8]; first | rfl | (simp [errW_none, errW_some] <;> rfl)) | (simp [*, errW_none, errW_some] <;> rfl), by (with_reducible repeat (first | apply Kd.R_alloc | apply Kd.R_drewN | apply Kd.R_drew)); exact HO148.out, by repeat (first | exact HB.out | apply zac | apply zab | apply zad)⟩
       ·rw [if_neg c11] at H
        exact absurd H (by simp)
      ·rw [if_neg c10] at H
       exact absurd H (by simp)
     ·rw [if_neg c9] at H
      exact absurd H (by simp)
    ·rw [if_neg c7] at H
     exact absurd H (by simp)
   ·rw [if_neg c6] at H
    exact absurd H (by simp)
  ·rw [if_neg c4] at H
   exact absurd H (by simp)
 ·rw [if_neg c3] at H
  exact absurd H (by simp)
mutual
def zaq.l0 : Nat → ByteArray → List Int → List Int → Int → Option (List Int)
 | 0, _, _, _, _ => none
 | k + 1, x0, x3, x4, x5 => if x5 < (x0.size : Int) then (zaq.l1 k x0 x3 x4 x5 0) else (some x4)
def zaq.l1 : Nat → ByteArray → List Int → List Int → Int → Int → Option (List Int)
 | 0, _, _, _, _, _ => none
 | k + 1, x0, x3, x4, x5, x6 => if 0 ≤ x6 then (if x6 < (x3.length : Int) then (if 0 ≤ x5 then (if x5 < (x0.size : Int) then (if (rd x3 x6) = (bt x0 x5) then (if x4.length < 17592186044416 then ((zbn.f x3 x6).bind fun t156 => (zaq.l0 k x0 t156 (x4 ++ [x6]) (wrap64 (x5 + 1)))) else (none)) else (zaq.l1 k x0 x3 x4 x5 (wrap64 (x6 + 1)))) else (none)) else (none)) else (none)) else (none)
end
def zaq.f (k : Nat) (a0 : ByteArray) : Option (List Int) := (za4.f k).bind fun t149 => (zaq.l0 k a0 t149 ([] : List Int) 0)
theorem zaq.calls (k : Nat) (a0 : ByteArray) (r : List Int) (w : World) (h : zaq.f k a0 = some r) :
  Calls Tryd.prog 16 #[.string a0] w fun e w' => ∃ v0_ : Value, e = .returned (v0_) ∧ Kd.R (Kd.int .i64) 3 w' w.heap.size (fun _ => True) v0_ r ∧ Below w.heap.size w w' := by
 have HB := zaa.mk (Below.refl w.heap.size w)
 have H : ((za4.f k).bind fun t149 => (zaq.l0 k a0 t149 ([] : List Int) 0)) = some r := h
 clear h
 replace H := Option.bind_eq_some_iff.mp H
 obtain ⟨t149, A20, H⟩ := H
 have A2 := zaa.mk A20
 clear A20
 have H' := zaa.mk H
 clear H
 go_enter Tryd.func16, Tryd.ntmps16
 go_wp2_with (first | (go_at_call 32; (with_reducible refine (za4.calls k  t149 _ A2.out).mono ?_); rintro e w3 ⟨v150, rfl, ho0, hb⟩; have n0_ := zaa.mk (Kd.R_lower ho0 (zam HB.out)); have n1_ := zaa.mk (zaf HB.out hb); clear HB; have HO151 := n0_; have HB := n1_; clear n0_ n1_; (try clear hb); (try clear hb2); (try clear hk); (try clear hi); (try clear ho0)))
 go_loopg [3, 4, 5] k (fun kq v3 v4 v5 w' => ∃ (x3_1 : List Int) (x4_1 : List Int) (x5_1 : Int), v5 = .int .i64 x5_1 ∧ zaa (zaq.l0 kq a0 x3_1 x4_1 x5_1 = some r) ∧ zaa (kq ≤ k) ∧ zaa (Kd.R (Kd.int .u8) 5 w' w.heap.size (fun _ => True) v3 x3_1) ∧ zaa (Kd.R (Kd.int .i64) 3 w' w.heap.size (fun _ => True) v4 x4_1) ∧ zaa (Below w.heap.size w w'))
 case atStart => exact ⟨(t149), (([] : List Int)), (0), rfl, H', ⟨Nat.le_refl _⟩, ⟨by (with_reducible repeat (first | apply Kd.R_alloc | apply Kd.R_drewN | apply Kd.R_drew)); exact HO151.out⟩, ⟨by first | exact Kd.R_nil _ _ _ _ _ | exact Kd.N_nil _ _ _ _ _ | exact Kd.V_nil _ _ _ _ _ | exact Kd.Q_nil _ _ _ _ _ | exact Kd.S_nil _ _ _ _ _⟩, ⟨by repeat (first | exact HB.out | apply zac | apply zab | apply zad)⟩⟩
 case round =>
  clear H'
  obtain ⟨x3_1, x4_1, x5_1, rfl, HA, HK1, HO_3, HO_4, HB⟩ := hrel
  cases gk with
  | zero => exact absurd HA.out (by simp [zaq.l0])
  | succ k1 =>
   have H := HA.out
   clear HA
   simp only [zaq.l0] at H
   by_cases c4 : x5_1 < (a0.size : Int)
   ·rw [if_pos c4] at H
    have c4b0 : decide (x5_1 < (a0.size : Int)) = true := decide_eq_true c4
    clear c4
    have H' := zaa.mk H
    clear H
    go_wp2
    repeat (go_quiet (fail); try go_wp2)
    go_loopg [6] k1 (fun kq v6 w' => ∃ (x6_2 : Int), v6 = .int .i64 x6_2 ∧ zaa (zaq.l1 kq a0 x3_1 x4_1 x5_1 x6_2 = some r) ∧ zaa (kq ≤ k1) ∧ zaa (Kd.R (Kd.int .u8) 5 w' w.heap.size (fun _ => True) u3 x3_1) ∧ zaa (Kd.R (Kd.int .i64) 3 w' w.heap.size (fun _ => True) u4 x4_1) ∧ zaa (Below w.heap.size w w'))
    case atStart => exact ⟨(0), rfl, H', ⟨Nat.le_refl _⟩, ⟨by (with_reducible repeat (first | apply Kd.R_alloc | apply Kd.R_drewN | apply Kd.R_drew)); exact HO_3.out⟩, ⟨by (with_reducible repeat (first | apply Kd.R_alloc | apply Kd.R_drewN | apply Kd.R_drew)); exact HO_4.out⟩, ⟨by repeat (first | exact HB.out | apply zac | apply zab | apply zad)⟩⟩
    case round =>
     clear H'
     obtain ⟨x6_2, rfl, HA, HK2, HO_3, HO_4, HB⟩ := hrel
     cases gk with
     | zero => exact absurd HA.out (by simp [zaq.l1])
     | succ k2 =>
      have H := HA.out
      clear HA
      simp only [zaq.l1] at H
      by_cases c5 : 0 ≤ x6_2
      ·rw [if_pos c5] at H
       have c5b0 : decide (0 ≤ x6_2) = true := decide_eq_true c5
       clear c5
       by_cases c6 : x6_2 < (x3_1.length : Int)
       ·rw [if_pos c6] at H
        have c6b0 : decide (x6_2 < (x3_1.length : Int)) = true := decide_eq_true c6
        clear c6
        by_cases c7 : 0 ≤ x5_1
        ·rw [if_pos c7] at H
         have c7b0 : decide (0 ≤ x5_1) = true := decide_eq_true c7
         clear c7
         by_cases c8 : x5_1 < (a0.size : Int)
         ·rw [if_pos c8] at H
          have c8b0 : decide (x5_1 < (a0.size : Int)) = true := decide_eq_true c8
          clear c8
          by_cases c10 : (rd x3_1 x6_2) = (bt a0 x5_1)
          ·rw [if_pos c10] at H
           have c10b0 : ((rd x3_1 x6_2) == (bt a0 x5_1)) = true := beq_iff_eq.mpr c10
           have c10b1 : ((rd x3_1 x6_2) != (bt a0 x5_1)) = false := bne_eq_false_iff_eq.mpr c10
           clear c10
           by_cases c11 : x4_1.length < 17592186044416
           ·rw [if_pos c11] at H
            have LMc11 := zaa.mk c11
            clear c11
            obtain ⟨y153, hy153⟩ : ∃ y_ : List Int, y_ = (x4_1 ++ [x6_2]) := ⟨_, rfl⟩
            replace H : ((zbn.f x3_1 x6_2).bind fun t156 => (zaq.l0 k2 a0 t156 y153 (wrap64 (x5_1 + 1)))) = some r := by first | (rw [hy153]; with_reducible exact H) | (have H2_ := (Option.bind_some _ _).symm.trans H; rw [hy153]; with_reducible exact H2_) | (have H2_ := (Option.bind_some _ _).symm.trans H; with_reducible exact H2_) | with_reducible exact H | (rw [hy153]; exact H) | exact H
            have Ny153 := zaa.mk hy153
            clear hy153
            replace H := Option.bind_eq_some_iff.mp H
            obtain ⟨t156, A120, H⟩ := H
            have A12 := zaa.mk A120
            clear A120
            have H' := zaa.mk H
            clear H
            obtain ⟨Ao13, co13, eo13⟩ := Kd.R_slice HO_3.out
            subst eo13
            have p152 : 0 ≤ (x6_2 : Int) := of_decide_eq_true (by assumption)
            have q152 : x6_2 < (x3_1.length : Int) := of_decide_eq_true (by assumption)
            obtain ⟨ad152, e152, hx152_0⟩ := Kd.at_int (Kd.R_reads' HO_3.out).2.2 x6_2 p152 q152
            cases e152
            replace p152 := eq_true p152
            replace q152 := eq_true q152
            have p9 : 0 ≤ (x5_1 : Int) := of_decide_eq_true (by assumption)
            have q9 : x5_1 < (a0.size : Int) := of_decide_eq_true (by assumption)
            have hx9 := bt_at a0 x5_1
            replace p9 := eq_true p9
            replace q9 := eq_true q9
            go_wp2_with (first | ((with_reducible refine zaw (b := .append) (xs := #[.tmp 24, .tmp 26]) rfl ?_); at_builtin; refine Kd.R_append (Kd.int .i64) (w0 := w) w.heap.size rfl (.tmp 24) (.tmp 26) 29 3 (.int .i64 0) 8 rfl Tryd.underlying29 info3 rfl (by decide) (by omega) u4 x4_1 x6_2 [.int .i64 x6_2] (fun _ => True) (fun _ => False) rfl rfl ?aP (fun _ hk => hk.elim) ?aF ?aO ?aB ?aS ?aL ?_; (case aP => exact rfl); (case aB => exact HB.out); (case aF => exact (fun _ _ => trivial)); (case aO => exact HO_4.out); (case aS => exact (zam HB.out)); (case aL => have := LMc11.out; omega); intro v154 w14 ho hb hg hat; rw [← Ny153.out] at ho; have n0_ := zaa.mk (Kd.R_over' HO_3.out (Kd.R_typed HO_4.out) (by decide) hg); have n1_ := zaa.mk (hb); have n2_ := zaa.mk (ho); clear HO_3; clear HB; clear HO_4; have HO_3 := n0_; have HB := n1_; have HO155 := n2_; clear n0_ n1_ n2_; clear ho hb hg hat) | (go_at_call 33; (with_reducible refine (zbn.calls _ _ x3_1 x6_2 t156 _ ?side1 ?side2 A12.out).mono ?_); (case side1 => repeat (first | exact (Kd.R_reads' HO_3.out).2.2 | (with_reducible refine Kd.C_alloc ?_ _) | (with_reducible refine Kd.C_drewN ?_ _) | (with_reducible refine Kd.C_drew ?_))); (case side2 => exact (Kd.R_reads' HO_3.out).2.1); rintro e w15 ⟨v157, rfl, ho0, hb⟩; have n0_ := zaa.mk (Kd.R_elder' HO_3.out (Kd.R_base ho0) hb); have n1_ := zaa.mk (Kd.R_below HO155.out hb); have n2_ := zaa.mk (Kd.R_lower (Kd.R_new' ho0 (Kd.R_lt HO_3.out)) (zam HB.out)); have n3_ := zaa.mk (zaf HB.out hb); clear HO_3; clear HO155; clear HB; have HO_3 := n0_; have HO155 := n1_; have HO158 := n2_; have HB := n3_; clear n0_ n1_ n2_ n3_; (try clear hb); (try clear hb2); (try clear hk); (try clear hi); (try clear ho0)))
            repeat (go_quiet (first | ((with_reducible refine zaw (b := .append) (xs := #[.tmp 24, .tmp 26]) rfl ?_); at_builtin; refine Kd.R_append (Kd.int .i64) (w0 := w) w.heap.size rfl (.tmp 24) (.tmp 26) 29 3 (.int .i64 0) 8 rfl Tryd.underlying29 info3 rfl (by decide) (by omega) u4 x4_1 x6_2 [.int .i64 x6_2] (fun _ => True) (fun _ => False) rfl rfl ?aP (fun _ hk => hk.elim) ?aF ?aO ?aB ?aS ?aL ?_; (case aP => exact rfl); (case aB => exact (by repeat (first | exact HB.out | apply zac | apply zab | apply zad))); (case aF => exact (fun _ _ => trivial)); (case aO => exact (by (with_reducible repeat (first | apply Kd.R_alloc | apply Kd.R_drewN | apply Kd.R_drew)); exact HO_4.out)); (case aS => exact (zam (by repeat (first | exact HB.out | apply zac | apply zab | apply zad)))); (case aL => have := LMc11.out; omega); intro v154 w14 ho hb hg hat; rw [← Ny153.out] at ho; have n0_ := zaa.mk (Kd.R_over' (by (with_reducible repeat (first | apply Kd.R_alloc | apply Kd.R_drewN | apply Kd.R_drew)); exact HO_3.out) (Kd.R_typed (by (with_reducible repeat (first | apply Kd.R_alloc | apply Kd.R_drewN | apply Kd.R_drew)); exact HO_4.out)) (by decide) hg); have n1_ := zaa.mk (hb); have n2_ := zaa.mk (ho); clear HO_3; clear HB; clear HO_4; have HO_3 := n0_; have HB := n1_; have HO155 := n2_; clear n0_ n1_ n2_; clear ho hb hg hat) | (go_at_call 33; (with_reducible refine (zbn.calls _ _ x3_1 x6_2 t156 _ ?side1 ?side2 A12.out).mono ?_); (case side1 => repeat (first | exact (Kd.R_reads' HO_3.out).2.2 | (with_reducible refine Kd.C_alloc ?_ _) | (with_reducible refine Kd.C_drewN ?_ _) | (with_reducible refine Kd.C_drew ?_))); (case side2 => exact (Kd.R_reads' HO_3.out).2.1); rintro e w15 ⟨v157, rfl, ho0, hb⟩; have n0_ := zaa.mk (Kd.R_elder' (by (with_reducible repeat (first | apply Kd.R_alloc | apply Kd.R_drewN | apply Kd.R_drew)); exact HO_3.out) (Kd.R_base ho0) hb); have n1_ := zaa.mk (Kd.R_below (by (with_reducible repeat (first | apply Kd.R_alloc | apply Kd.R_drewN | apply Kd.R_drew)); exact HO155.out) hb); have n2_ := zaa.mk (Kd.R_lower (Kd.R_new' ho0 (Kd.R_lt (by (with_reducible repeat (first | apply Kd.R_alloc | apply Kd.R_drewN | apply Kd.R_drew)); exact HO_3.out))) (zam (by repeat (first | exact HB.out | apply zac | apply zab | apply zad)))); have n3_ := zaa.mk (zaf (by repeat (first | exact HB.out | apply zac | apply zab | apply zad)) hb); clear HO_3; clear HO155; clear HB; have HO_3 := n0_; have HO155 := n1_; have HO158 := n2_; have HB := n3_; clear n0_ n1_ n2_ n3_; (try clear hb); (try clear hb2); (try clear hk); (try clear hi); (try clear ho0))); try go_wp2_with (first | ((with_reducible refine zaw (b := .append) (xs := #[.tmp 24, .tmp 26]) rfl ?_); at_builtin; refine Kd.R_append (Kd.int .i64) (w0 := w) w.heap.size rfl (.tmp 24) (.tmp 26) 29 3 (.int .i64 0) 8 rfl Tryd.underlying29 info3 rfl (by decide) (by omega) u4 x4_1 x6_2 [.int .i64 x6_2] (fun _ => True) (fun _ => False) rfl rfl ?aP (fun _ hk => hk.elim) ?aF ?aO ?aB ?aS ?aL ?_; (case aP => exact rfl); (case aB => exact (by repeat (first | exact HB.out | apply zac | apply zab | apply zad))); (case aF => exact (fun _ _ => trivial)); (case aO => exact (by (with_reducible repeat (first | apply Kd.R_alloc | apply Kd.R_drewN | apply Kd.R_drew)); exact HO_4.out)); (case aS => exact (zam (by repeat (first | exact HB.out | apply zac | apply zab | apply zad)))); (case aL => have := LMc11.out; omega); intro v154 w14 ho hb hg hat; rw [← Ny153.out] at ho; have n0_ := zaa.mk (Kd.R_over' (by (with_reducible repeat (first | apply Kd.R_alloc | apply Kd.R_drewN | apply Kd.R_drew)); exact HO_3.out) (Kd.R_typed (by (with_reducible repeat (first | apply Kd.R_alloc | apply Kd.R_drewN | apply Kd.R_drew)); exact HO_4.out)) (by decide) hg); have n1_ := zaa.mk (hb); have n2_ := zaa.mk (ho); clear HO_3; clear HB; clear HO_4; have HO_3 := n0_; have HB := n1_; have HO155 := n2_; clear n0_ n1_ n2_; clear ho hb hg hat) | (go_at_call 33; (with_reducible refine (zbn.calls _ _ x3_1 x6_2 t156 _ ?side1 ?side2 A12.out).mono ?_); (case side1 => repeat (first | exact (Kd.R_reads' HO_3.out).2.2 | (with_reducible refine Kd.C_alloc ?_ _) | (with_reducible refine Kd.C_drewN ?_ _) | (with_reducible refine Kd.C_drew ?_))); (case side2 => exact (Kd.R_reads' HO_3.out).2.1); rintro e w15 ⟨v157, rfl, ho0, hb⟩; have n0_ := zaa.mk (Kd.R_elder' (by (with_reducible repeat (first | apply Kd.R_alloc | apply Kd.R_drewN | apply Kd.R_drew)); exact HO_3.out) (Kd.R_base ho0) hb); have n1_ := zaa.mk (Kd.R_below (by (with_reducible repeat (first | apply Kd.R_alloc | apply Kd.R_drewN | apply Kd.R_drew)); exact HO155.out) hb); have n2_ := zaa.mk (Kd.R_lower (Kd.R_new' ho0 (Kd.R_lt (by (with_reducible repeat (first | apply Kd.R_alloc | apply Kd.R_drewN | apply Kd.R_drew)); exact HO_3.out))) (zam (by repeat (first | exact HB.out | apply zac | apply zab | apply zad)))); have n3_ := zaa.mk (zaf (by repeat (first | exact HB.out | apply zac | apply zab | apply zad)) hb); clear HO_3; clear HO155; clear HB; have HO_3 := n0_; have HO155 := n1_; have HO158 := n2_; have HB := n3_; clear n0_ n1_ n2_ n3_; (try clear hb); (try clear hb2); (try clear hk); (try clear hi); (try clear ho0))))
            go_roundg k2
            case measure => have := HK1.out; have := HK2.out; omega
            case rel => exact ⟨(t156), (y153), (wrap64 (x5_1 + 1)), rfl, H', ⟨by have := HK1.out; have := HK2.out; omega⟩, ⟨by (with_reducible repeat (first | apply Kd.R_alloc | apply Kd.R_drewN | apply Kd.R_drew)); exact Kd.R_mono HO158.out (fun _ hk => trivial)⟩, ⟨by (with_reducible repeat (first | apply Kd.R_alloc | apply Kd.R_drewN | apply Kd.R_drew)); exact HO155.out⟩, ⟨by repeat (first | exact HB.out | apply zac | apply zab | apply zad)⟩⟩
           ·rw [if_neg c11] at H
            exact absurd H (by simp)
          ·rw [if_neg c10] at H
           have c10b0 : ((rd x3_1 x6_2) == (bt a0 x5_1)) = false := beq_eq_false_iff_ne.mpr c10
           have c10b1 : ((rd x3_1 x6_2) != (bt a0 x5_1)) = true := bne_iff_ne.mpr c10
           have H' := zaa.mk H
           clear H
           obtain ⟨Ao16, co16, eo16⟩ := Kd.R_slice HO_3.out
           subst eo16
           have p152 : 0 ≤ (x6_2 : Int) := of_decide_eq_true (by assumption)
           have q152 : x6_2 < (x3_1.length : Int) := of_decide_eq_true (by assumption)
           obtain ⟨ad152, e152, hx152_0⟩ := Kd.at_int (Kd.R_reads' HO_3.out).2.2 x6_2 p152 q152
           cases e152
           replace p152 := eq_true p152
           replace q152 := eq_true q152
           have p9 : 0 ≤ (x5_1 : Int) := of_decide_eq_true (by assumption)
           have q9 : x5_1 < (a0.size : Int) := of_decide_eq_true (by assumption)
           have hx9 := bt_at a0 x5_1
           replace p9 := eq_true p9
           replace q9 := eq_true q9
           go_wp2
           repeat (go_quiet (fail); try go_wp2)
           go_roundg k2
           case measure => have := HK1.out; have := HK2.out; omega
           case rel => exact ⟨(wrap64 (x6_2 + 1)), rfl, H', ⟨by have := HK1.out; have := HK2.out; omega⟩, ⟨by (with_reducible repeat (first | apply Kd.R_alloc | apply Kd.R_drewN | apply Kd.R_drew)); exact HO_3.out⟩, ⟨by (with_reducible repeat (first | apply Kd.R_alloc | apply Kd.R_drewN | apply Kd.R_drew)); exact HO_4.out⟩, ⟨by repeat (first | exact HB.out | apply zac | apply zab | apply zad)⟩⟩
         ·rw [if_neg c8] at H
          exact absurd H (by simp)
        ·rw [if_neg c7] at H
         exact absurd H (by simp)
       ·rw [if_neg c6] at H
        exact absurd H (by simp)
      ·rw [if_neg c5] at H
       exact absurd H (by simp)
   ·rw [if_neg c4] at H
    have c4b0 : decide (x5_1 < (a0.size : Int)) = false := decide_eq_false c4
    clear c4
    obtain rfl := Option.some.inj H
    go_wp2
    repeat (go_quiet (fail); try go_wp2)
    go_ret
    exact ⟨_, rfl, by (with_reducible repeat (first | apply Kd.R_alloc | apply Kd.R_drewN | apply Kd.R_drew)); exact HO_4.out, by repeat (first | exact HB.out | apply zac | apply zab | apply zad)⟩
end Go.Proofs.YtdifgiceallpiaaDoor.Pr
end
section
namespace Go.Proofs.YtdifgiceallpiaaDoor.Pure
open Go.RowKit Go.Proofs.YtdifgiceallpiaaDoorW.PrintWords Go.Proofs.YtdifgiceallpiaaDoorW.PrintMore Go.Proofs.YtdifgiceallpiaaDoor.P Go.Proofs.YtdifgiceallpiaaDoor.Pr Go.Proofs.YtdifgiceallpiaaDoor.Com

theorem rrun_ev (n : Nat) (hn : n ≤ 17592186044415) : ∀ (out : List Int), out.length + n ≤ 17592186044415 → Ev (fun k => zax.l0 k (n : Int) out) (out ++ rn n) := by
  induction n using Nat.strongRecOn with
  | _ n ih =>
    intro out ho
    by_cases h : n = 0
    · subst h
      refine Ev.step (f := fun _ => some out) (fun k => ?_) (by rw [rn_zero, List.append_nil]; exact Ev.now _)
      simp only [zax.l0]
      rw [if_neg (by omega)]
    · rw [rn_pos n (by omega)]
      refine Ev.step (f := fun k => zax.l0 k (((n - 1) / 2 : Nat) : Int) (out ++ [(((n - 1) % 2 : Nat) : Int)])) (fun k => ?_) ?_
      · simp only [zax.l0]
        rw [if_pos (by omega), if_pos (by omega), w64 (x := (n : Int) - 1) (by omega) (by omega), Int.tmod_eq_emod_of_nonneg (by omega), w64 (x := (n : Int) - 1 - ((n : Int) - 1) % 2) (by omega) (by omega), Int.tdiv_eq_ediv_of_nonneg (by omega), w64 (x := ((n : Int) - 1 - ((n : Int) - 1) % 2) / 2) (by omega) (by omega)]
        have e1 : ((n : Int) - 1) % 2 = (((n - 1) % 2 : Nat) : Int) := by omega
        have e2 : ((n : Int) - 1 - ((n : Int) - 1) % 2) / 2 = (((n - 1) / 2 : Nat) : Int) := by omega
        rw [e2, e1]
      · have := ih ((n - 1) / 2) (by omega) (by omega) (out ++ [(((n - 1) % 2 : Nat) : Int)]) (by simp; omega)
        simpa using this

theorem rpack_l1 (l : List Int) (hl : l.length ≤ 1048576) (hok : l.all okN = true) : Ev (fun k => zak.l1 k l [] 0 0) (sg 0 l, 0) := by
  have h := Ev.along l (fun k (s : List Int × Nat) i => zak.l1 k l s.1 (s.2 : Int) i) (fun s t => (s.1 ++ sg s.2 t, 0)) (fun i s => s.1.length + s.2 ≤ i) ?_ ?_ 0 ([], 0) (Nat.zero_le _) (by simp)
  · simpa using h
  · rintro ⟨out, n⟩ hs
    dsimp only at hs ⊢
    have hr := rn_length n
    refine Ev.step (f := fun k => (zax.f k (n : Int)).bind fun t174 => (if out.length + t174.length < 17592186044416 then (some ((out ++ t174), 0)) else (none))) (fun k => ?_) ?_
    · simp only [zak.l1]
      rw [if_neg (by omega)]
    · refine Ev.bind (a := rn n) (by simpa [zax.f] using rrun_ev n (by omega) [] (by simp; omega)) (Ev.ifp (by omega) ?_)
      simpa [sg] using Ev.now (out ++ rn n, (0 : Int))
  · rintro i ⟨out, n⟩ a t hs hd ha hlt ih
    dsimp only at hs ih ⊢
    have hr := rn_length n
    have hb := all_mem hok ha
    simp [okN] at hb
    by_cases a0 : a = 0
    · have := ih (out, n + 1) (by dsimp only; omega)
      have e0 : sg n (a :: t) = sg (n + 1) t := by simp only [sg]; rw [if_pos a0]
      rw [e0]
      refine Ev.step (fun k => ?_) this
      simp only [zak.l1]
      rw [if_pos (by omega), if_pos (by omega), rd_some ha, if_pos a0, w64 (x := (n : Int) + 1) (by omega) (by omega), w64 (x := (i : Int) + 1) (by omega) (by omega)]
      rfl
    · have := ih (out ++ rn n ++ [a + 1], 0) (by simp; omega)
      have e0 : sg n (a :: t) = rn n ++ (a + 1) :: sg 0 t := by simp only [sg]; rw [if_neg a0]
      rw [e0]
      refine Ev.step (f := fun k => (zax.f k (n : Int)).bind fun t164 => (if out.length + t164.length < 17592186044416 then ((some (out ++ t164 : List Int)).bind fun y167 => (if y167.length < 17592186044416 then (zak.l1 k l (y167 ++ [a + 1]) 0 ((i + 1 : Nat) : Int)) else (none))) else (none))) (fun k => ?_) ?_
      · simp only [zak.l1]
        rw [if_pos (by omega), if_pos (by omega), rd_some ha, if_neg a0, w64 (x := a + 1) (by omega) (by omega), w64 (x := (i : Int) + 1) (by omega) (by omega)]
        rfl
      · refine Ev.bind (a := rn n) (by simpa [zax.f] using rrun_ev n (by omega) [] (by simp; omega)) (Ev.ifp (by omega) ?_)
        simp only [Option.bind_some]
        refine Ev.ifp (by simp; omega) ?_
        simpa using this

theorem rpack_ev (l : List Int) (hl : l.length ≤ 1048576) : Ev (fun k => zak.f k l) (pack l) := by
  refine looks l okN (fun k i => zak.l0 k l i) (fun k => zak.l1 k l [] 0 0) ([], 2) (sg 0 l, 0) (fun k => ?_) (fun k i a ha hlt => ?_) (rpack_l1 l hl)
  · simp only [zak.l0]
    rw [if_neg (by omega)]
  · simp only [zak.l0]
    rw [if_pos (by omega), if_pos (by omega), rd_some ha, w64 (x := (i : Int) + 1) (by omega) (by omega)]
    by_cases a0 : a < 0
    · have e : okN a = false := by simp [okN]; omega
      rw [if_pos a0, e]; rfl
    · by_cases a1 : a > 1048576
      · have e : okN a = false := by simp [okN]; omega
        rw [if_neg a0, if_pos a1, e]; rfl
      · have e : okN a = true := by simp [okN]; omega
        rw [if_neg a0, if_neg a1, e]; rfl

end Go.Proofs.YtdifgiceallpiaaDoor.Pure
end
section
namespace Go.Proofs.YtdifgiceallpiaaDoor.Pure
open Go.RowKit Go.Proofs.YtdifgiceallpiaaDoorW.PrintWords Go.Proofs.YtdifgiceallpiaaDoorW.PrintMore Go.Proofs.YtdifgiceallpiaaDoor.Hd Go.Proofs.YtdifgiceallpiaaDoor.P Go.Proofs.YtdifgiceallpiaaDoor.Pr Go.Proofs.YtdifgiceallpiaaDoor.Com

theorem row_l0 (d : Nat) : ∀ i : Nat, i + d = 256 → Ev (fun k => za4.l0 k ((List.range i).map (fun n : Nat => (n : Int))) (i : Int)) (upto 256) := by
  induction d with
  | zero =>
    intro i hi
    obtain rfl : i = 256 := by omega
    refine Ev.step (f := fun _ => some (upto 256)) (fun k => ?_) (Ev.now _)
    simp only [za4.l0]
    rw [if_neg (by omega), upto_eq]
  | succ d ih =>
    intro i hi
    refine Ev.step (fun k => ?_) (ih (i + 1) (by omega))
    simp only [za4.l0]
    rw [if_pos (by omega), if_pos (by simp; omega), w64 (by omega) (by omega), List.range_succ, List.map_append]
    have e : (i : Int) % 256 = (i : Int) := by omega
    rw [e]
    rfl
theorem row_ev : Ev (fun k => za4.f k) (upto 256) := by
  have h := row_l0 256 0 (by omega)
  simp only [List.range_zero, List.map_nil, Int.natCast_zero] at h
  unfold za4.f
  exact h
theorem rmoved (r : List Int) (x : Int) (h0 : 0 ≤ x) (h1 : x < (r.length : Int)) (hr : r.length ≤ 1000) : zbn.f r x = some (moved r x.toNat) := by
  obtain ⟨i, rfl⟩ : ∃ i : Nat, x = i := ⟨x.toNat, by omega⟩
  unfold zbn.f
  have e : ((i : Int) + 1).toNat = i + 1 := by omega
  have ew : wrap64 ((i : Int) + 1) = (i : Int) + 1 := w64 (by omega) (by omega)
  have c1 : (i : Int) ≤ (r.length : Int) := by omega
  have c2 : 0 ≤ (i : Int) + 1 := by omega
  have c3 : (i : Int) + 1 ≤ (r.length : Int) := by omega
  rw [if_pos h0, if_pos h1, Option.bind_some, if_pos c1, if_pos (room1 r i h1 hr), Option.bind_some, ew, if_pos c2, if_pos c3, e, if_pos (room2 r i (i + 1) h1 hr), rd_nat]
  rfl

theorem rmove_l1 (s : ByteArray) (hs : s.size ≤ 1000) (r : List Int) (hr : Row r) (out : List Int) (ho : out.length ≤ 1000) (i : Nat) (hi : i < s.size) (res : List Int)
    (h : Ev (fun k => zaq.l0 k s (moved r (idx r (bt s i))) (out ++ [((idx r (bt s i) : Nat) : Int)]) ((i + 1 : Nat) : Int)) res) (d : Nat) :
    ∀ j : Nat, j + d = idx r (bt s i) → Ev (fun k => zaq.l1 k s r out (i : Int) (j : Int)) res := by
  have hb := bytes_byte s (bt s i) (by rw [bt_getD, getD_ltm (by rw [bytesOf_length]; exact hi)]; exact List.getElem_mem _)
  have hlt := idx_lt hr.1 hb.1 hb.2
  have hat := idx_at hr.1 hb.1 hb.2
  have hlen := hr.1.1
  induction d with
  | zero =>
    intro j hj
    obtain rfl : j = idx r (bt s i) := by omega
    refine Ev.step (fun k => ?_) h
    simp only [zaq.l1]
    rw [if_pos (by omega), if_pos (by omega), if_pos (by omega), if_pos (by omega), rd_nat, if_pos hat, if_pos (by omega), rmoved r _ (by omega) (by omega) (by omega), w64 (by omega) (by omega)]
    simp
  | succ d ih =>
    intro j hj
    have hne : r.getD j 0 ≠ bt s i := idx_not (by omega) (by omega)
    refine Ev.step (fun k => ?_) (ih (j + 1) (by omega))
    simp only [zaq.l1]
    rw [if_pos (by omega), if_pos (by omega), if_pos (by omega), if_pos (by omega), rd_nat, if_neg hne, w64 (by omega) (by omega)]
    rfl
theorem rmove_l0 (s : ByteArray) (hs : s.size ≤ 1000) : Ev (fun k => zaq.l0 k s (upto 256) [] 0) (zbu.go (upto 256) (bytesOf s)) := by
  have h := Ev.along (bytesOf s) (fun k (u : List Int × List Int) i => zaq.l0 k s u.1 u.2 i) (fun u t => u.2 ++ zbu.go u.1 t) (fun i u => Row u.1 ∧ u.2.length = i) ?_ ?_ 0 (upto 256, []) (Nat.zero_le _) ⟨Row.start, rfl⟩
  · simpa using h
  · rintro ⟨r, out⟩ ⟨hr, ho⟩
    refine Ev.step (f := fun _ => some out) (fun k => ?_) (Ev.some (by simp [zbu.go]))
    simp only [zaq.l0]
    rw [if_neg (by rw [bytesOf_length]; omega)]
  · rintro i ⟨r, out⟩ a t ⟨hr, ho⟩ hd ha hlt ih
    dsimp only at hr ho ih ⊢
    rw [bytesOf_length] at hlt
    have eb : bt s i = a := by rw [bt_getD, List.getD_eq_getElem?_getD, ha]; rfl
    have hb := bytes_byte s a (List.mem_of_getElem? ha)
    have := ih (moved r (idx r a), out ++ [((idx r a : Nat) : Int)]) ⟨hr.moved (idx_lt hr.1 hb.1 hb.2), by simp [ho]⟩
    have e : out ++ zbu.go r (a :: t) = (out ++ [((idx r a : Nat) : Int)]) ++ zbu.go (moved r (idx r a)) t := by simp [zbu.go]
    rw [e]
    refine Ev.step (fun k => ?_) (rmove_l1 s hs r hr out (by omega) i hlt _ (by rw [eb]; exact this) (idx r (bt s i)) 0 (by omega))
    simp only [zaq.l0]
    rw [if_pos (by omega)]
    rfl
theorem rmove_ev (s : ByteArray) (hs : s.size ≤ 1000) : Ev (fun k => zaq.f k s) (zbu.go (upto 256) (bytesOf s)) :=
  Ev.bind row_ev (rmove_l0 s hs)

end Go.Proofs.YtdifgiceallpiaaDoor.Pure
end
