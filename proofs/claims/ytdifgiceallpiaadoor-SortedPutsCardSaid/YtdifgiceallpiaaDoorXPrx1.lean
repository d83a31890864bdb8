/- Words of this seat. -/
import Derived.Test.YtdifgiceallpiaaDoorXPrx0
import Derived.Test.YtdifgiceallpiaaDoorXHRs
import Derived.Test.YtdifgiceallpiaaDoorXPureSo
import Derived.Test.YtdifgiceallpiaaDoorXHBw
set_option linter.unusedVariables false
set_option linter.unusedSimpArgs false
set_option linter.unusedSectionVars false
section
-- Laid by this session's driver (wip/tools/myprint.py) over the kit's print program.
namespace Go.Proofs.YtdifgiceallpiaaDoor.Pa
end Go.Proofs.YtdifgiceallpiaaDoor.Pa
namespace Go.Proofs.YtdifgiceallpiaaDoor.Hd
end Go.Proofs.YtdifgiceallpiaaDoor.Hd
namespace Go.Proofs.YtdifgiceallpiaaDoor.Pr
open Go.RowKit YtdifgiceallpiaaDoor.Pa YtdifgiceallpiaaDoor.Hd YtdifgiceallpiaaDoorW.PrintWords YtdifgiceallpiaaDoorW.PrintLast YtdifgiceallpiaaDoorW.PrintMore
attribute [local go_sem] za9 za8 zbi zbj za0 za1 zba zbb   -- for this text's walks alone
attribute [local go_sem] Go.Proofs.YtdifgiceallpiaaDoor.Hd.str_gtr Go.Proofs.YtdifgiceallpiaaDoor.Hd.str_geq
def IsS133 (w0 W : World) (g : Nat) (f0 : Int) (f1 : Int) (f2 : Int) (f3 : ByteArray) : Prop := W.heap[g]? = some (.cells #[.int .u64 f0, .int .u64 f1, .int .u64 f2, .string f3] 133 (0, 0)) ∧ w0.heap.size ≤ g
mutual
def zal.j0 : Nat → ByteArray → List Int → List Int → Int → Option (ByteArray × Int)
 | 0, _, _, _, _ => none
 | k + 1, x0, x4, x5, x6 => zal.l0 k x0 x4 x5 x6 0
def zal.l0 : Nat → ByteArray → List Int → List Int → Int → Int → Option (ByteArray × Int)
 | 0, _, _, _, _, _ => none
 | k + 1, x0, x4, x5, x6, x7 => if x7 < (x4.length : Int) then (if 0 ≤ x7 then (if (rd x4 x7) = 0 then (zal.l0 k x0 x4 x5 (wrap64 (x7 + 1)) (wrap64 (x7 + 1))) else (if 0 ≤ (wrap64 ((rd x4 x7) - 1)) then (if (wrap64 ((rd x4 x7) - 1)) < (x0.size : Int) then (if x5.length < 140737488355328 then (zal.l0 k x0 x4 (x5 ++ [bt x0 (wrap64 ((rd x4 x7) - 1))]) x6 (wrap64 (x7 + 1))) else (none)) else (none)) else (none))) else (none)) else (some (strOfNums x5, x6))
end
def zal.f (k : Nat) (a0 : ByteArray) : Option (ByteArray × Int) := (zai.f k a0).bind fun t101 => (if (a0.size : Int) > 0 then (if 0 ≤ (wrap64 ((a0.size : Int) - 1)) then (if (wrap64 ((a0.size : Int) - 1)) < (a0.size : Int) then (if ([] : List Int).length < 140737488355328 then (zal.j0 k a0 t101 (([] : List Int) ++ [bt a0 (wrap64 ((a0.size : Int) - 1))]) 0) else (none)) else (none)) else (none)) else (zal.j0 k a0 t101 ([] : List Int) 0))
theorem zal.calls (k : Nat) (a0 : ByteArray) (r1 : ByteArray) (r2 : Int) (w : World) (h : zal.f k a0 = some (r1, r2)) :
  Calls Tryd.prog 14 #[.string a0] w fun e w' => e = .returned (.tuple #[.string r1, .int .i64 r2]) ∧ Below w.heap.size w w' := by
 have HB := zaa.mk (Below.refl w.heap.size w)
 have H : ((zai.f k a0).bind fun t101 => (if (a0.size : Int) > 0 then (if 0 ≤ (wrap64 ((a0.size : Int) - 1)) then (if (wrap64 ((a0.size : Int) - 1)) < (a0.size : Int) then (if ([] : List Int).length < 140737488355328 then (zal.j0 k a0 t101 (([] : List Int) ++ [bt a0 (wrap64 ((a0.size : Int) - 1))]) 0) else (none)) else (none)) else (none)) else (zal.j0 k a0 t101 ([] : List Int) 0))) = some (r1, r2) := h
 clear h
 replace H := Option.bind_eq_some_iff.mp H
 obtain ⟨t101, A20, H⟩ := H
 have A2 := zaa.mk A20
 clear A20
 have HC3 := zaa.mk H
 clear H
 go_enter Tryd.func14, Tryd.ntmps14
 go_upto_if 12 with (first | ((with_reducible refine zbc (f := 30) rfl ?_); refine zb6 (some 9) rfl rfl Tryd.func30 (by kernel_rfl) rfl #[.string a0] rfl (by (try simp only [List.map_toArray, List.map_cons, List.map_nil]); first | done | rfl | (simp only [List.length_drop, List.length_take]; rfl)) ?_; (with_reducible refine (zai.calls k a0 t101 _ A2.out).mono ?_); rintro e w4 ⟨v102, rfl, ho0, hb⟩; refine ⟨_, rfl, ?_⟩; have n0_ := zaa.mk (Kd.R_lower ho0 (zam HB.out)); have n1_ := zaa.mk (zaf HB.out hb); clear HB; have HO103 := n0_; have HB := n1_; clear n0_ n1_; (try clear hb); (try clear hb2); (try clear hk); (try clear hi); (try clear ho0)))
 (try simp only [Act.put, sAt, sZr, sSc])
 go_cut [5] (fun v5 wc => ∃ (kq : Nat) (x5_2 : List Int), zaa (zal.j0 kq a0 t101 x5_2 0 = some (r1, r2)) ∧ zaa (kq ≤ k) ∧ zaa (Kd.R (Kd.int .i64) 3 wc w.heap.size (fun _ => True) v102 t101) ∧ zaa (Kd.R (Kd.int .u8) 5 wc w.heap.size (fun _ => True) v5 x5_2) ∧ zaa (Below w.heap.size w wc))
 case first =>
  have H := HC3.out
  clear HC3
  by_cases c5 : (a0.size : Int) > 0
  ·rw [if_pos c5] at H
   have c5b0 : decide (0 < (a0.size : Int)) = true := decide_eq_true c5
   have c5b1 : decide (0 < a0.size) = true := decide_eq_true (by omega)
   clear c5
   (first | rw [c5b0] | (simp only [i64_w, i32_w]; rw [c5b0]) | rw [c5b1] | skip)
   obtain ⟨ji6, hji6⟩ : ∃ j_ : Int, (wrap64 ((a0.size : Int) - 1)) = j_ := ⟨_, rfl⟩
   replace H : (if 0 ≤ (ji6) then (if (ji6) < (a0.size : Int) then (if ([] : List Int).length < 140737488355328 then (zal.j0 k a0 t101 (([] : List Int) ++ [bt a0 (ji6)]) 0) else (none)) else (none)) else (none)) = some (r1, r2) := by first | (rw [hji6] at H; exact H) | (simp only [hji6] at H ⊢; exact H)
   have hji6w : (IntKind.i64.wrap ((a0.size : Int) - 1)) = ji6 := (i64_w _).trans hji6
   by_cases c7 : 0 ≤ (ji6)
   ·rw [if_pos c7] at H
    have c7b0 : decide (0 ≤ (ji6)) = true := decide_eq_true c7
    clear c7
    by_cases c8 : (ji6) < (a0.size : Int)
    ·rw [if_pos c8] at H
     have c8b0 : decide ((ji6) < (a0.size : Int)) = true := decide_eq_true c8
     clear c8
     by_cases c10 : ([] : List Int).length < 140737488355328
     ·rw [if_pos c10] at H
      have LMc10 := zaa.mk c10
      clear c10
      obtain ⟨y104, hy104⟩ : ∃ y_ : List Int, y_ = (([] : List Int) ++ [bt a0 (ji6)]) := ⟨_, rfl⟩
      replace H : (zal.j0 k a0 t101 y104 0) = some (r1, r2) := by first | (rw [hy104]; with_reducible exact H) | (have H2_ := (Option.bind_some _ _).symm.trans H; rw [hy104]; with_reducible exact H2_) | (have H2_ := (Option.bind_some _ _).symm.trans H; with_reducible exact H2_) | with_reducible exact H | (rw [hy104]; exact H) | exact H
      have Ny104 := zaa.mk hy104
      clear hy104
      have H' := zaa.mk H
      clear H
      have p9 : 0 ≤ ((ji6) : Int) := of_decide_eq_true (by assumption)
      have q9 : (ji6) < (a0.size : Int) := of_decide_eq_true (by assumption)
      have hx9 := bt_at a0 (ji6)
      replace p9 := eq_true p9
      replace q9 := eq_true q9
      go_wp2_with (first | ((with_reducible refine zaw (b := .append) (xs := #[.tmp 13, .tmp 19]) rfl ?_); at_builtin; refine Kd.R_append (Kd.int .u8) (w0 := w) w.heap.size rfl (.tmp 13) (.tmp 19) 48 5 (.int .u8 0) 1 rfl Tryd.underlying48 info5 rfl (by decide) (by omega) (.slice none 0 0) ([] : List Int) (bt a0 (ji6)) [.int .u8 (bt a0 (ji6))] (fun _ => True) (fun _ => False) rfl rfl ?aP (fun _ hk => hk.elim) ?aF ?aO ?aB ?aS ?aL ?_; (case aP => exact rfl); (case aB => exact HB.out); (case aF => exact (fun _ _ => trivial)); (case aO => exact ((Kd.R_nil _ _ _ _ (fun _ => True)))); (case aS => exact (zam HB.out)); (case aL => have := LMc10.out; omega); intro v105 w11 ho hb hg hat; rw [← Ny104.out] at ho; have n0_ := zaa.mk (Kd.R_grown HO103.out hg (fun _ _ => by simp [Value.ownBlock])); have n1_ := zaa.mk (hb); have n2_ := zaa.mk (ho); clear HO103; clear HB; have HO103 := n0_; have HB := n1_; have HO106 := n2_; clear n0_ n1_ n2_; clear ho hb hg hat))
      go_meet
      case rel => exact ⟨_, (y104), H', ⟨by first | omega | exact Nat.le_refl _⟩, ⟨by (with_reducible repeat (first | apply Kd.R_alloc | apply Kd.R_drewN | apply Kd.R_drew)); exact HO103.out⟩, ⟨by (with_reducible repeat (first | apply Kd.R_alloc | apply Kd.R_drewN | apply Kd.R_drew)); exact HO106.out⟩, ⟨by repeat (first | exact HB.out | apply zac | apply zab | apply zad)⟩⟩
     ·rw [if_neg c10] at H
      exact absurd H (by simp)
    ·rw [if_neg c8] at H
     exact absurd H (by simp)
   ·rw [if_neg c7] at H
    exact absurd H (by simp)
  ·rw [if_neg c5] at H
   have c5b0 : decide (0 < (a0.size : Int)) = false := decide_eq_false c5
   have c5b1 : decide (0 < a0.size) = false := decide_eq_false (by omega)
   clear c5
   (first | rw [c5b0] | (simp only [i64_w, i32_w]; rw [c5b0]) | rw [c5b1] | skip)
   have H' := zaa.mk H
   clear H
   go_wp2
   go_meet
   case rel => exact ⟨_, (([] : List Int)), H', ⟨by first | omega | exact Nat.le_refl _⟩, ⟨by (with_reducible repeat (first | apply Kd.R_alloc | apply Kd.R_drewN | apply Kd.R_drew)); exact HO103.out⟩, ⟨by first | exact Kd.R_nil _ _ _ _ _ | exact Kd.N_nil _ _ _ _ _ | exact Kd.V_nil _ _ _ _ _ | exact Kd.Q_nil _ _ _ _ _ | exact Kd.S_nil _ _ _ _ _⟩, ⟨by repeat (first | exact HB.out | apply zac | apply zab | apply zad)⟩⟩
 case rest =>
  clear HC3
  obtain ⟨kq, x5_2, HA, HJ2, HO_4, HO_5, HB⟩ := hcut
  cases kq with
  | zero => exact absurd HA.out (by simp [zal.j0])
  | succ kj2 =>
   have H := HA.out
   clear HA
   simp only [zal.j0] at H
   have H' := zaa.mk H
   clear H
   go_wp2
   go_loopg [5, 6, 7] kj2 (fun kq v5 v6 v7 w' => ∃ (x5_2 : List Int) (x6_2 : Int) (x7_2 : Int), v6 = .int .i64 x6_2 ∧ v7 = .int .i64 x7_2 ∧ zaa (zal.l0 kq a0 t101 x5_2 x6_2 x7_2 = some (r1, r2)) ∧ zaa (kq ≤ kj2) ∧ zaa (Kd.R (Kd.int .i64) 3 w' w.heap.size (fun _ => True) v102 t101) ∧ zaa (Kd.R (Kd.int .u8) 5 w' w.heap.size (fun _ => True) v5 x5_2) ∧ zaa (Below w.heap.size w w'))
   case atStart => exact ⟨(x5_2), (0), (0), rfl, rfl, H', ⟨Nat.le_refl _⟩, ⟨by (with_reducible repeat (first | apply Kd.R_alloc | apply Kd.R_drewN | apply Kd.R_drew)); exact HO_4.out⟩, ⟨by (with_reducible repeat (first | apply Kd.R_alloc | apply Kd.R_drewN | apply Kd.R_drew)); exact HO_5.out⟩, ⟨by repeat (first | exact HB.out | apply zac | apply zab | apply zad)⟩⟩
   case round =>
    clear H'
    obtain ⟨x5_2, x6_2, x7_2, rfl, rfl, HA, HK2, HO_4, HO_5, HB⟩ := hrel
    cases gk with
    | zero => exact absurd HA.out (by simp [zal.l0])
    | succ k2 =>
     have H := HA.out
     clear HA
     simp only [zal.l0] at H
     by_cases c12 : x7_2 < (t101.length : Int)
     ·rw [if_pos c12] at H
      have c12b0 : decide (x7_2 < (t101.length : Int)) = true := decide_eq_true c12
      clear c12
      by_cases c13 : 0 ≤ x7_2
      ·rw [if_pos c13] at H
       have c13b0 : decide (0 ≤ x7_2) = true := decide_eq_true c13
       clear c13
       by_cases c14 : (rd t101 x7_2) = 0
       ·rw [if_pos c14] at H
        have c14b0 : ((rd t101 x7_2) == 0) = true := beq_iff_eq.mpr c14
        have c14b1 : ((rd t101 x7_2) != 0) = false := bne_eq_false_iff_eq.mpr c14
        clear c14
        have H' := zaa.mk H
        clear H
        obtain ⟨Ao15, co15, eo15⟩ := Kd.R_slice HO_4.out
        subst eo15
        have p107 : 0 ≤ (x7_2 : Int) := of_decide_eq_true (by assumption)
        have q107 : x7_2 < (t101.length : Int) := of_decide_eq_true (by assumption)
        obtain ⟨ad107, e107, hx107_0⟩ := Kd.at_int (Kd.R_reads' HO_4.out).2.2 x7_2 p107 q107
        cases e107
        replace p107 := eq_true p107
        replace q107 := eq_true q107
        go_wp2
        go_roundg k2
        case measure => have := HJ2.out; have := HK2.out; omega
        case rel => exact ⟨(x5_2), (wrap64 (x7_2 + 1)), (wrap64 (x7_2 + 1)), rfl, rfl, H', ⟨by have := HJ2.out; have := HK2.out; omega⟩, ⟨by (with_reducible repeat (first | apply Kd.R_alloc | apply Kd.R_drewN | apply Kd.R_drew)); exact HO_4.out⟩, ⟨by (with_reducible repeat (first | apply Kd.R_alloc | apply Kd.R_drewN | apply Kd.R_drew)); exact HO_5.out⟩, ⟨by repeat (first | exact HB.out | apply zac | apply zab | apply zad)⟩⟩
       ·rw [if_neg c14] at H
        have c14b0 : ((rd t101 x7_2) == 0) = false := beq_eq_false_iff_ne.mpr c14
        have c14b1 : ((rd t101 x7_2) != 0) = true := bne_iff_ne.mpr c14
        obtain ⟨ji16, hji16⟩ : ∃ j_ : Int, (wrap64 ((rd t101 x7_2) - 1)) = j_ := ⟨_, rfl⟩
        replace H : (if 0 ≤ (ji16) then (if (ji16) < (a0.size : Int) then (if x5_2.length < 140737488355328 then (zal.l0 k2 a0 t101 (x5_2 ++ [bt a0 (ji16)]) x6_2 (wrap64 (x7_2 + 1))) else (none)) else (none)) else (none)) = some (r1, r2) := by first | (rw [hji16] at H; exact H) | (simp only [hji16] at H ⊢; exact H)
        have hji16w : (IntKind.i64.wrap ((rd t101 x7_2) - 1)) = ji16 := (i64_w _).trans hji16
        by_cases c17 : 0 ≤ (ji16)
        ·rw [if_pos c17] at H
         have c17b0 : decide (0 ≤ (ji16)) = true := decide_eq_true c17
         clear c17
         by_cases c18 : (ji16) < (a0.size : Int)
         ·rw [if_pos c18] at H
          have c18b0 : decide ((ji16) < (a0.size : Int)) = true := decide_eq_true c18
          clear c18
          by_cases c20 : x5_2.length < 140737488355328
          ·rw [if_pos c20] at H
           have LMc20 := zaa.mk c20
           clear c20
           obtain ⟨y109, hy109⟩ : ∃ y_ : List Int, y_ = (x5_2 ++ [bt a0 (ji16)]) := ⟨_, rfl⟩
           replace H : (zal.l0 k2 a0 t101 y109 x6_2 (wrap64 (x7_2 + 1))) = some (r1, r2) := by first | (rw [hy109]; with_reducible exact H) | (have H2_ := (Option.bind_some _ _).symm.trans H; rw [hy109]; with_reducible exact H2_) | (have H2_ := (Option.bind_some _ _).symm.trans H; with_reducible exact H2_) | with_reducible exact H | (rw [hy109]; exact H) | exact H
           have Ny109 := zaa.mk hy109
           clear hy109
           have H' := zaa.mk H
           clear H
           obtain ⟨Ao21, co21, eo21⟩ := Kd.R_slice HO_4.out
           subst eo21
           have p107 : 0 ≤ (x7_2 : Int) := of_decide_eq_true (by assumption)
           have q107 : x7_2 < (t101.length : Int) := of_decide_eq_true (by assumption)
           obtain ⟨ad107, e107, hx107_0⟩ := Kd.at_int (Kd.R_reads' HO_4.out).2.2 x7_2 p107 q107
           cases e107
           replace p107 := eq_true p107
           replace q107 := eq_true q107
           have p108 : 0 ≤ (x7_2 : Int) := of_decide_eq_true (by assumption)
           have q108 : x7_2 < (t101.length : Int) := of_decide_eq_true (by assumption)
           obtain ⟨ad108, e108, hx108_0⟩ := Kd.at_int (Kd.R_reads' HO_4.out).2.2 x7_2 p108 q108
           obtain rfl : ad107 = ad108 := (by injection e108)
           replace p108 := eq_true p108
           replace q108 := eq_true q108
           have p19 : 0 ≤ ((ji16) : Int) := of_decide_eq_true (by assumption)
           have q19 : (ji16) < (a0.size : Int) := of_decide_eq_true (by assumption)
           have hx19 := bt_at a0 (ji16)
           replace p19 := eq_true p19
           replace q19 := eq_true q19
           go_wp2_with (first | ((with_reducible refine zaw (b := .append) (xs := #[.tmp 34, .tmp 42]) rfl ?_); at_builtin; refine Kd.R_append (Kd.int .u8) (w0 := w) w.heap.size rfl (.tmp 34) (.tmp 42) 48 5 (.int .u8 0) 1 rfl Tryd.underlying48 info5 rfl (by decide) (by omega) u5 x5_2 (bt a0 (ji16)) [.int .u8 (bt a0 (ji16))] (fun _ => True) (fun _ => False) rfl rfl ?aP (fun _ hk => hk.elim) ?aF ?aO ?aB ?aS ?aL ?_; (case aP => exact rfl); (case aB => exact HB.out); (case aF => exact (fun _ _ => trivial)); (case aO => exact HO_5.out); (case aS => exact (zam HB.out)); (case aL => have := LMc20.out; omega); intro v110 w22 ho hb hg hat; rw [← Ny109.out] at ho; have n0_ := zaa.mk (Kd.R_over' HO_4.out (Kd.R_typed HO_5.out) (by decide) hg); have n1_ := zaa.mk (hb); have n2_ := zaa.mk (ho); clear HO_4; clear HB; clear HO_5; have HO_4 := n0_; have HB := n1_; have HO111 := n2_; clear n0_ n1_ n2_; clear ho hb hg hat))
           go_roundg k2
           case measure => have := HJ2.out; have := HK2.out; omega
           case rel => exact ⟨(y109), (x6_2), (wrap64 (x7_2 + 1)), rfl, rfl, H', ⟨by have := HJ2.out; have := HK2.out; omega⟩, ⟨by (with_reducible repeat (first | apply Kd.R_alloc | apply Kd.R_drewN | apply Kd.R_drew)); exact HO_4.out⟩, ⟨by (with_reducible repeat (first | apply Kd.R_alloc | apply Kd.R_drewN | apply Kd.R_drew)); exact HO111.out⟩, ⟨by repeat (first | exact HB.out | apply zac | apply zab | apply zad)⟩⟩
          ·rw [if_neg c20] at H
           exact absurd H (by simp)
         ·rw [if_neg c18] at H
          exact absurd H (by simp)
        ·rw [if_neg c17] at H
         exact absurd H (by simp)
      ·rw [if_neg c13] at H
       exact absurd H (by simp)
     ·rw [if_neg c12] at H
      have c12b0 : decide (x7_2 < (t101.length : Int)) = false := decide_eq_false c12
      clear c12
      simp only [Option.some.injEq, Prod.mk.injEq] at H
      obtain ⟨rfl, rfl⟩ := H
      obtain ⟨Ao23, co23, eo23⟩ := Kd.R_slice HO_4.out
      subst eo23
      have hcv24 := own_string (P := Tryd.prog) Tryd.underlying48 Tryd.underlying5 Tryd.underlying9 (Kd.own_of_R HO_5.out)
      go_wp2
      go_ret2
      exact ⟨by first | rfl | (simp [errW_none, errW_some] <;> rfl) | (simp [*, errW_none, errW_some] <;> rfl), by repeat (first | exact HB.out | apply zac | apply zab | apply zad)⟩
end Go.Proofs.YtdifgiceallpiaaDoor.Pr
end
section
namespace Go.Proofs.YtdifgiceallpiaaDoor.Pure
open Go Go.RowKit Go.Proofs.YtdifgiceallpiaaDoor.P Go.Proofs.YtdifgiceallpiaaDoor.Pr Go.Proofs.YtdifgiceallpiaaDoorW.PrintWords Go.Proofs.YtdifgiceallpiaaDoorW.PrintLast Go.Proofs.YtdifgiceallpiaaDoor.Com Go.Proofs.YtdifgiceallpiaaDoor.Hd Go.Proofs.YtdifgiceallpiaaDoor.Hw Go.Proofs.YtdifgiceallpiaaDoor.Cn Go.Proofs.YtdifgiceallpiaaDoor.Sais Go.Proofs.YtdifgiceallpiaaDoor.Bw
theorem rturn_l0 {s : ByteArray} (hs : s.size ≤ 1073741824) {l : List Nat} (hl : l.length ≤ s.size) (hm : ∀ y ∈ l, y < s.size) (hn : l.Nodup) (d : Nat) : ∀ (i : Nat) (b : List Nat) (a : Nat), i + d = l.length → b.length ≤ i + 1 →
    Ev (fun k => zal.l0 k s (iN l) (iN b) (a : Int) (i : Int)) (strOfNums (iN (b ++ ((l.drop i).filter (fun p => p ≠ 0)).map (fun p => (nb s).getD (p - 1) 0))), (((if 0 ∈ l.drop i then i + (l.drop i).idxOf 0 + 1 else a : Nat)) : Int)) := by
  induction d with
  | zero =>
    intro i b a hi hb
    refine Ev.step (f := fun _ => some _) (fun k => ?_) (Ev.now _)
    simp only [zal.l0]
    rw [if_neg (by rw [zb1]; omega), List.drop_eq_nil_of_le (by omega)]
    simp
  | succ d ih =>
    intro i b a hi hb
    have hil : i < l.length := by omega
    have hp := hm (l.getD i 0) (by rw [Bw.gD hil]; exact List.getElem_mem _)
    have hrd : rd (iN l) (i : Int) = ((l.getD i 0 : Nat) : Int) := by rw [rd_nat, iN_getD]
    have hd : l.drop i = l.getD i 0 :: l.drop (i + 1) := Bw.drop_cc hil
    have hno : l.getD i 0 ∉ l.drop (i + 1) := by
      have h := hn.sublist (List.drop_sublist i l)
      rw [hd] at h
      exact (List.nodup_cons.1 h).1
    generalize l.getD i 0 = p at hp hrd hd hno
    rw [hd]
    by_cases h0 : p = 0
    · subst h0
      have := ih (i + 1) b (i + 1) (by omega) (by omega)
      rw [if_neg hno] at this
      rw [List.filter_cons_of_neg (by simp), if_pos List.mem_cons_self, List.idxOf_cons_self]
      refine Ev.step (fun k => ?_) this
      simp only [zal.l0]
      rw [if_pos (by rw [zb1]; omega), if_pos (by omega), hrd, if_pos (by rfl), w64 (by omega) (by omega)]
      rfl
    · have := ih (i + 1) (b ++ [(nb s).getD (p - 1) 0]) a (by omega) (by rw [List.length_append, List.length_singleton]; omega)
      rw [List.filter_cons_of_pos (by simp [h0]), List.map_cons]
      rw [List.append_assoc, List.singleton_append] at this
      have e : (if 0 ∈ l.drop (i + 1) then i + 1 + (l.drop (i + 1)).idxOf 0 + 1 else a) = (if 0 ∈ p :: l.drop (i + 1) then i + (p :: l.drop (i + 1)).idxOf 0 + 1 else a) := by
        have e1 : (0 ∈ p :: l.drop (i + 1)) ↔ 0 ∈ l.drop (i + 1) := by simp [Ne.symm h0]
        by_cases h : 0 ∈ l.drop (i + 1)
        · rw [if_pos h, if_pos (e1.2 h), idx_ne _ h0]; omega
        · rw [if_neg h, if_neg (fun z => h (e1.1 z))]
      rw [e] at this
      refine Ev.step (fun k => ?_) this
      simp only [zal.l0]
      have eb : iN b ++ [bt s ((p - 1 : Nat) : Int)] = iN (b ++ [(nb s).getD (p - 1) 0]) := by rw [bt_nb]; unfold iN; simp
      rw [if_pos (by rw [zb1]; omega), if_pos (by omega), hrd, if_neg (by omega), w64 (x := (p : Int) - 1) (by omega) (by omega), show (p : Int) - 1 = ((p - 1 : Nat) : Int) from by omega, if_pos (by omega), if_pos (by omega), if_pos (by rw [zb1]; omega), eb, w64 (by omega) (by omega)]
      rfl
theorem rturn_ev {s : ByteArray} (hs : s.size ≤ 1073741824) : Ev (fun k => zal.f k s) (tS s, (tA s : Int)) := by
  unfold zal.f
  have F := srt_facts s
  refine Ev.bind (f := fun k t => _) (sort_ev hs) ?_
  rcases Nat.eq_zero_or_pos s.size with h0 | h0
  · have T := tn_nil h0
    have e : srtN (nb s) = [] := List.eq_nil_of_length_eq_zero (by rw [F.1, h0])
    refine Ev.ifn (by omega) ?_
    unfold tS
    rw [T.1, T.2, e]
    refine Ev.step (fun k => by simp only [zal.j0]; rfl) ?_
    exact rturn_l0 (s := s) (l := []) (by omega) (by simp) (fun _ h => nomatch h) List.nodup_nil 0 0 [] 0 rfl (by simp)
  · have T := tn_cons h0
    have L := rturn_l0 hs (by rw [F.1]; omega) F.2.1 F.2.2.1 (srtN (nb s)).length 0 [(nb s).getD (s.size - 1) 0] 0 (by omega) (by simp)
    rw [List.drop_zero, if_pos (F.2.2.2 h0), List.singleton_append, ← T.1, Nat.zero_add, ← T.2] at L
    refine Ev.ifp (by omega) ?_
    rw [w64 (by omega) (by omega), show (s.size : Int) - 1 = ((s.size - 1 : Nat) : Int) from by omega, bt_nb]
    refine Ev.ifp (by omega) (Ev.ifp (by omega) (Ev.ifp (by simp) ?_))
    exact Ev.step (fun k => by simp only [zal.j0]; rfl) L
end Go.Proofs.YtdifgiceallpiaaDoor.Pure
end
