/- Words of this seat. -/
import Derived.Test.YtdifgiceallpiaaDoorXPx0
set_option linter.unusedVariables false
set_option linter.unusedSimpArgs false
set_option linter.unusedSectionVars false
-- Laid by this session's driver (wip/tools/myprint.py) over the kit's print program.
namespace Go.Proofs.YtdifgiceallpiaaDoor.Pa
end Go.Proofs.YtdifgiceallpiaaDoor.Pa
namespace Go.Proofs.YtdifgiceallpiaaDoor.Hd
end Go.Proofs.YtdifgiceallpiaaDoor.Hd
namespace Go.Proofs.YtdifgiceallpiaaDoor.P
open Go.RowKit YtdifgiceallpiaaDoor.Pa YtdifgiceallpiaaDoor.Hd YtdifgiceallpiaaDoorW.PrintWords YtdifgiceallpiaaDoorW.PrintLast YtdifgiceallpiaaDoorW.PrintMore
attribute [local go_sem] za9 za8 zbi zbj za0 za1 zba zbb   -- for this text's walks alone
def prob_Start.f  : Option (Int) := some 1024
theorem prob_Start.calls  (r : Int) (w : World) (h : prob_Start.f  = some r) :
  Calls Tryd.prog 49 #[] w fun e w' => e = .returned (.int .i64 r) ∧ za3 w w' := by
 have H : (some 1024) = some r := h
 clear h
 obtain rfl := Option.some.inj H
 go_enter Tryd.func49, Tryd.ntmps49
 go_wp2
 go_ret
 exact ⟨by first | rfl | (simp; done) | (simp [*]; done), by repeat (first | exact za3.refl _ | apply za3.step)⟩
-- NOT PRINTED: function 26 (bittree_fresh)
def zbw.j0 : Nat → Int → Bool → Bool → Option (Int × Int)
 | 0, _, _, _ => none
 | k + 1, x0, x1, x6 => if x6 = true then (some (0, 2)) else (if x1 = true then (some (wrap64 (x0 - (x0 / 32)), 0)) else (some (wrap64 (x0 + ((wrap64 (2048 - x0)) / 32)), 0)))
def zbw.f (k : Nat) (a0 : Int) (a1 : Bool) : Option (Int × Int) := if a0 < 1 then (zbw.j0 k a0 a1 true) else (zbw.j0 k a0 a1 (decide (a0 ≥ 2048)))
theorem zbw.calls (k : Nat) (a0 : Int) (a1 : Bool) (r1 : Int) (r2 : Int) (w : World) (h : zbw.f k a0 a1 = some (r1, r2)) :
  Calls Tryd.prog 50 #[.int .i64 a0, .bool a1] w fun e w' => e = .returned (.tuple #[.int .i64 r1, .int .i64 r2]) ∧ za3 w w' := by
 have H : (if a0 < 1 then (zbw.j0 k a0 a1 true) else (zbw.j0 k a0 a1 (decide (a0 ≥ 2048)))) = some (r1, r2) := h
 clear h
 have HC3 := zaa.mk H
 clear H
 go_enter Tryd.func50, Tryd.ntmps50
 go_upto_region 1 with (fail)
 go_cut [6] (fun v6 wc => ∃ (kq : Nat) (x6_2 : Bool), v6 = .bool x6_2 ∧ zaa (zbw.j0 kq a0 a1 x6_2 = some (r1, r2)) ∧ zaa (kq ≤ k) ∧ za3 w wc)
 case first =>
  have H := HC3.out
  clear HC3
  by_cases c4 : a0 < 1
  ·rw [if_pos c4] at H
   have c4b0 : decide (a0 < 1) = true := decide_eq_true c4
   clear c4
   (first | rw [c4b0] | (simp only [i64_w, i32_w]; rw [c4b0]) | skip)
   have H' := zaa.mk H
   clear H
   go_wp2
   go_meet
   case rel => exact ⟨_, (true), (by first | rfl | simp), H', ⟨by first | omega | exact Nat.le_refl _⟩, by repeat (first | exact za3.refl _ | apply za3.step)⟩
  ·rw [if_neg c4] at H
   have c4b0 : decide (a0 < 1) = false := decide_eq_false c4
   clear c4
   (first | rw [c4b0] | (simp only [i64_w, i32_w]; rw [c4b0]) | skip)
   have H' := zaa.mk H
   clear H
   go_wp2
   go_meet
   case rel => exact ⟨_, (decide (a0 ≥ 2048)), (by first | rfl | simp), H', ⟨by first | omega | exact Nat.le_refl _⟩, by repeat (first | exact za3.refl _ | apply za3.step)⟩
 case rest =>
  clear HC3
  obtain ⟨kq, x6_2, rfl, HA, HJ2, ⟨mc2, rfl⟩⟩ := hcut
  cases kq with
  | zero => exact absurd HA.out (by simp [zbw.j0])
  | succ kj2 =>
   have H := HA.out
   clear HA
   simp only [zbw.j0] at H
   by_cases c5 : x6_2 = true
   ·subst c5
    rw [if_pos rfl] at H; have H1 := H
    clear H
    have H := H1
    clear H1
    simp only [Option.some.injEq, Prod.mk.injEq] at H
    obtain ⟨rfl, rfl⟩ := H
    go_wp2
    go_ret2
    exact ⟨by first | rfl | (simp; done) | (simp [*]; done), by repeat (first | exact za3.refl _ | apply za3.step)⟩
   ·replace c5 := Bool.eq_false_iff.mpr c5
    subst c5
    rw [if_neg (show ¬ (false = true) by decide)] at H; have H1 := H
    clear H
    have H := H1
    clear H1
    by_cases c6 : a1 = true
    ·subst c6
     rw [if_pos rfl] at H; have H1 := H
     clear H
     have H := H1
     clear H1
     simp only [Option.some.injEq, Prod.mk.injEq] at H
     obtain ⟨rfl, rfl⟩ := H
     go_wp2
     go_ret2
     exact ⟨by first | rfl | (simp; done) | (simp [*]; done), by repeat (first | exact za3.refl _ | apply za3.step)⟩
    ·replace c6 := Bool.eq_false_iff.mpr c6
     subst c6
     rw [if_neg (show ¬ (false = true) by decide)] at H; have H1 := H
     clear H
     have H := H1
     clear H1
     simp only [Option.some.injEq, Prod.mk.injEq] at H
     obtain ⟨rfl, rfl⟩ := H
     go_wp2
     go_ret2
     exact ⟨by first | rfl | (simp; done) | (simp [*]; done), by repeat (first | exact za3.refl _ | apply za3.step)⟩
-- NOT PRINTED: function 28 (bittree_tree_walk)
-- NOT PRINTED: function 72 (slices_IndexFunc_int_int)
-- NOT PRINTED: function 51 (slices_ContainsFunc_int_int)
def zcm.f (a0 : Int) : Option (Bool) := if a0 < 1 then (some true) else (some (decide (a0 ≥ 2048)))
theorem zcm.calls (a0 : Int) (r : Bool) (w : World) (h : zcm.f a0 = some r) :
  Calls Tryd.prog 52 #[.int .i64 a0] w fun e w' => e = .returned (.bool r) ∧ za3 w w' := by
 have H : (if a0 < 1 then (some true) else (some (decide (a0 ≥ 2048)))) = some r := h
 clear h
 by_cases c2 : a0 < 1
 ·rw [if_pos c2] at H
  have c2b0 : decide (a0 < 1) = true := decide_eq_true c2
  clear c2
  obtain rfl := Option.some.inj H
  go_enter Tryd.func52, Tryd.ntmps52
  go_wp2
  go_ret
  exact ⟨by first | rfl | (simp; done) | (simp [*]; done), by repeat (first | exact za3.refl _ | apply za3.step)⟩
 ·rw [if_neg c2] at H
  have c2b0 : decide (a0 < 1) = false := decide_eq_false c2
  clear c2
  obtain rfl := Option.some.inj H
  go_enter Tryd.func52, Tryd.ntmps52
  go_wp2
  go_ret
  exact ⟨by first | rfl | (simp; done) | (simp [*]; done), by repeat (first | exact za3.refl _ | apply za3.step)⟩
def ranger_fresh.f  : Option (Int × Int) := some (0, 4294967295)
theorem ranger_fresh.calls  (r1 : Int) (r2 : Int) (w : World) (h : ranger_fresh.f  = some (r1, r2)) :
  Calls Tryd.prog 73 #[] w fun e w' => e = .returned (.agg #[.int .u64 r1, .int .u64 r2]) ∧ Below w.heap.size w w' := by
 have hu127 := Tryd.underlying127
 have HB := zaa.mk (Below.refl w.heap.size w)
 have H : (some (0, 4294967295)) = some (r1, r2) := h
 clear h
 simp only [Option.some.injEq, Prod.mk.injEq] at H
 obtain ⟨rfl, rfl⟩ := H
 go_enter Tryd.func73, Tryd.ntmps73
 go_wp2_with (first | ((with_reducible refine zay (N := 0) rfl ?_); refine zcq ?hg (N := 0) ?hd (cs := #[.int .u64 0, .int .u64 0]) (t := 127) ?hr ?_; (case hd => rfl); (case hg => rfl); (case hr => first | (go_simp; done) | (go_simp; rfl)); intro gb182 hg w1 hbox hb; have n0_ := zaa.mk (zaf HB.out hb); have n1_ := zaa.mk (hbox); have n2_ := zaa.mk ((by rw [hg]; exact (zam HB.out) : w.heap.size ≤ gb182)); have n3_ := zaa.mk ((by rw [hg]; exact (zam HB.out) : w.heap.size ≤ gb182)); clear HB; have HB := n0_; have BK182 := n1_; have GW182 := n2_; have GE182 := n3_; clear n0_ n1_ n2_ n3_; clear hb hbox hg; have hcz2_0 : w1.cell? ⟨gb182, 0, none⟩ = some (.int .u64 0) := (zah BK182.out 0).trans rfl; have hcz2_1 : w1.cell? ⟨gb182, 1, none⟩ = some (.int .u64 0) := (zah BK182.out 1).trans rfl; have hfz2_0 := zao BK182.out 0; have hfz2_1 := zao BK182.out 1))
 refine bodyPost_ret (results_cell_row rfl _ _ gb182 127 #[.int .u64 0, .int .u64 4294967295] (0, 0) _ rfl (by (with_reducible repeat (first | refine blk_drewN ?_ _ | refine zbk ?_ | refine za7 ?_ _)); refine zb2 (cs := #[.int .u64 0, .int .u64 0]) ?_ 1 _ rfl; (with_reducible repeat (first | refine blk_drewN ?_ _ | refine zbk ?_ | refine za7 ?_ _)); refine zb2 (cs := #[.int .u64 0, .int .u64 0]) ?_ 0 _ rfl; (with_reducible repeat (first | refine blk_drewN ?_ _ | refine zbk ?_ | refine za7 ?_ _)); exact BK182.out) Tryd.underlying127 rfl (by kernel_rfl)) rfl ?_
 exact ⟨by first | rfl | (simp [errW_none, errW_some] <;> rfl) | (simp [*, errW_none, errW_some] <;> rfl), by repeat (first | exact HB.out | apply zac | apply zab | apply zad | refine zat ?_ GE182.out)⟩
def zbp.f (a0_0 : Int) (a0_1 : Int) (a1 : Int) : Option (Int) := some (IntKind.u64.wrap (a0_0 + (IntKind.u64.wrap ((IntKind.u64.wrap (Int.tdiv (IntKind.u64.wrap (a0_1 - a0_0)) 2048)) * (IntKind.u64.wrap (a1))))))
theorem zbp.calls (a0_0 : Int) (a0_1 : Int) (a1 : Int) (r : Int) (w : World) (h : zbp.f a0_0 a0_1 a1 = some r) :
  Calls Tryd.prog 78 #[.agg #[.int .u64 a0_0, .int .u64 a0_1], .int .i64 a1] w fun e w' => e = .returned (.int .u64 r) ∧ Below w.heap.size w w' := by
 have hu127 := Tryd.underlying127
 have HB := zaa.mk (Below.refl w.heap.size w)
 have H : (some (IntKind.u64.wrap (a0_0 + (IntKind.u64.wrap ((IntKind.u64.wrap (Int.tdiv (IntKind.u64.wrap (a0_1 - a0_0)) 2048)) * (IntKind.u64.wrap (a1))))))) = some r := h
 clear h
 obtain rfl := Option.some.inj H
 go_enter Tryd.func78, Tryd.ntmps78
 go_wp2_with (first | ((with_reducible refine zay (N := 2) rfl ?_); refine zcq ?hg (N := 2) ?hd (cs := #[.int .u64 a0_0, .int .u64 a0_1]) (t := 127) ?hr ?_; (case hd => rfl); (case hg => rfl); (case hr => first | (go_simp; done) | (go_simp; rfl)); intro gb183 hg w3 hbox hb; have n0_ := zaa.mk (zaf HB.out hb); have n1_ := zaa.mk (hbox); have n2_ := zaa.mk ((by rw [hg]; exact (zam HB.out) : w.heap.size ≤ gb183)); have n3_ := zaa.mk ((by rw [hg]; exact (zam HB.out) : w.heap.size ≤ gb183)); clear HB; have HB := n0_; have BK183 := n1_; have GW183 := n2_; have GE183 := n3_; clear n0_ n1_ n2_ n3_; clear hb hbox hg; have hcz4_0 : w3.cell? ⟨gb183, 0, none⟩ = some (.int .u64 a0_0) := (zah BK183.out 0).trans rfl; have hcz4_1 : w3.cell? ⟨gb183, 1, none⟩ = some (.int .u64 a0_1) := (zah BK183.out 1).trans rfl; have hfz4_0 := zao BK183.out 0; have hfz4_1 := zao BK183.out 1))
 go_ret
 exact ⟨by first | rfl | (simp [errW_none, errW_some] <;> rfl) | (simp [*, errW_none, errW_some] <;> rfl), by repeat (first | exact HB.out | apply zac | apply zab | apply zad | refine zat ?_ GE183.out)⟩
def IsS127 (w0 W : World) (g : Nat) (f0 : Int) (f1 : Int) : Prop := W.heap[g]? = some (.cells #[.int .u64 f0, .int .u64 f1] 127 (0, 0)) ∧ w0.heap.size ≤ g
def ranger_span_take.f (s0_0 : Int) (s0_1 : Int) (a1 : Int) (a2 : Bool) : Option (Int × Int) := (zbp.f s0_0 s0_1 a1).bind fun t184 => (if a2 = true then (some (IntKind.u64.wrap (t184 + 1), s0_1)) else (some (s0_0, t184)))
-- NOT PRINTED: function 76 (ranger_span_shift)
-- NOT PRINTED: function 53 (ranger_encode)
-- NOT PRINTED: function 6 (sorted_Put)
-- NOT PRINTED: function 37 (sorted_numbers)
-- NOT PRINTED: function 77 (ranger_Decoder_next)
def zbq.l0 : Nat → List Int → Int → Int → Option (Int)
 | 0, _, _, _ => none
 | k + 1, x5, x6, x7 => if x7 < x6 then (if 0 ≤ x7 then (if x7 < (x5.length : Int) then (if (rd x5 x7) < 0 then (some 2) else (if (rd x5 x7) > 1048577 then (some 2) else (zbq.l0 k x5 x6 (wrap64 (x7 + 1))))) else (none)) else (none)) else (some 0)
def zbq.f (k : Nat) (l0 : List Int) : Option (Int) := zbq.l0 k l0 (l0.length : Int) 0
theorem zbq.calls (k : Nat) (A0 : Option Addr) (c0 : Nat) (l0 : List Int) (r : Int) (w : World) (hr0 : Kd.C (Kd.int .i64) w A0 l0.length l0) (hc0 : l0.length ≤ c0) (h : zbq.f k l0 = some r) :
  Calls Tryd.prog 61 #[.slice A0 l0.length c0] w fun e w' => e = .returned (.int .i64 r) ∧ za3 w w' := by
 have HR0 := zaa.mk hr0
 have HC0 := zaa.mk hc0
 clear hr0 hc0
 have H : (zbq.l0 k l0 (l0.length : Int) 0) = some r := h
 clear h
 have H' := zaa.mk H
 clear H
 go_enter Tryd.func61, Tryd.ntmps61
 go_wp2
 go_loopg [7] k (fun kq v7 w' => ∃ (x7_1 : Int), v7 = .int .i64 x7_1 ∧ zaa (zbq.l0 kq l0 (l0.length : Int) x7_1 = some r) ∧ zaa (kq ≤ k) ∧ za3 w w')
 case atStart => exact ⟨(0), (by first | rfl | simp), H', ⟨Nat.le_refl _⟩, by repeat (first | exact za3.refl _ | apply za3.step)⟩
 case round =>
  clear H'
  obtain ⟨x7_1, rfl, HA, HK1, ⟨m1, rfl⟩⟩ := hrel
  cases gk with
  | zero => exact absurd HA.out (by simp [zbq.l0])
  | succ k1 =>
   have H := HA.out
   clear HA
   simp only [zbq.l0] at H
   by_cases c2 : x7_1 < (l0.length : Int)
   ·rw [if_pos c2] at H
    clear c2
    by_cases c3 : 0 ≤ x7_1
    ·rw [if_pos c3] at H
     have c3b0 : decide (0 ≤ x7_1) = true := decide_eq_true c3
     clear c3
     by_cases c4 : x7_1 < (l0.length : Int)
     ·rw [if_pos c4] at H
      have c4b0 : decide (x7_1 < (l0.length : Int)) = true := decide_eq_true c4
      clear c4
      by_cases c5 : (rd l0 x7_1) < 0
      ·rw [if_pos c5] at H
       have c5b0 : decide ((rd l0 x7_1) < 0) = true := decide_eq_true c5
       clear c5
       obtain rfl := Option.some.inj H
       have p199 : 0 ≤ (x7_1 : Int) := of_decide_eq_true (by assumption)
       have q199 : x7_1 < (l0.length : Int) := of_decide_eq_true (by assumption)
       obtain ⟨ad199, e199, hx199_0⟩ := Kd.at_int HR0.out x7_1 p199 q199
       cases e199
       replace p199 := eq_true p199
       replace q199 := eq_true q199
       go_wp2
       go_ret
       exact ⟨by first | rfl | (simp; done) | (simp [*]; done), by repeat (first | exact za3.refl _ | apply za3.step)⟩
      ·rw [if_neg c5] at H
       have c5b0 : decide ((rd l0 x7_1) < 0) = false := decide_eq_false c5
       clear c5
       by_cases c6 : (rd l0 x7_1) > 1048577
       ·rw [if_pos c6] at H
        have c6b0 : decide (1048577 < (rd l0 x7_1)) = true := decide_eq_true c6
        clear c6
        obtain rfl := Option.some.inj H
        have p199 : 0 ≤ (x7_1 : Int) := of_decide_eq_true (by assumption)
        have q199 : x7_1 < (l0.length : Int) := of_decide_eq_true (by assumption)
        obtain ⟨ad199, e199, hx199_0⟩ := Kd.at_int HR0.out x7_1 p199 q199
        cases e199
        replace p199 := eq_true p199
        replace q199 := eq_true q199
        go_wp2
        go_ret
        exact ⟨by first | rfl | (simp; done) | (simp [*]; done), by repeat (first | exact za3.refl _ | apply za3.step)⟩
       ·rw [if_neg c6] at H
        have c6b0 : decide (1048577 < (rd l0 x7_1)) = false := decide_eq_false c6
        clear c6
        have H' := zaa.mk H
        clear H
        have p199 : 0 ≤ (x7_1 : Int) := of_decide_eq_true (by assumption)
        have q199 : x7_1 < (l0.length : Int) := of_decide_eq_true (by assumption)
        obtain ⟨ad199, e199, hx199_0⟩ := Kd.at_int HR0.out x7_1 p199 q199
        cases e199
        replace p199 := eq_true p199
        replace q199 := eq_true q199
        go_wp2
        go_roundg k1
        case measure => have := HK1.out; omega
        case rel => exact ⟨(wrap64 (x7_1 + 1)), (by first | rfl | simp), H', ⟨by have := HK1.out; omega⟩, by repeat (first | exact za3.refl _ | apply za3.step)⟩
     ·rw [if_neg c4] at H
      exact absurd H (by simp)
    ·rw [if_neg c3] at H
     exact absurd H (by simp)
   ·rw [if_neg c2] at H
    have c2b0 : decide (x7_1 < (l0.length : Int)) = false := decide_eq_false c2
    clear c2
    obtain rfl := Option.some.inj H
    go_wp2
    go_ret
    exact ⟨by first | rfl | (simp; done) | (simp [*]; done), by repeat (first | exact za3.refl _ | apply za3.step)⟩
mutual
def zau.l0 : Nat → List Int → Int → List Int → Int → Int → Option (List Int × Int)
 | 0, _, _, _, _, _ => none
 | k + 1, x5, x6, x16, x17, x18 => if x18 < x17 then (if 0 ≤ x18 then (if x18 < (x16.length : Int) then (if (rd x16 x18) = 1 then (zau.j1 k x5 (wrap64 (x6 * 2)) (wrap64 (x6 + x6)) 0 x16 x17 x18) else (if (rd x16 x18) = 0 then (zau.j1 k x5 (wrap64 (x6 * 2)) (wrap64 (0 + x6)) 0 x16 x17 x18) else (zau.j1 k x5 1 1 (wrap64 ((rd x16 x18) - 1)) x16 x17 x18))) else (none)) else (none)) else (some (x5, 0))
def zau.j1 : Nat → List Int → Int → Int → Int → List Int → Int → Int → Option (List Int × Int)
 | 0, _, _, _, _, _, _, _ => none
 | k + 1, x5, x6, x9, x10, x16, x17, x18 => if x9 > (wrap64 (1048576 - (x5.length : Int))) then (some (([] : List Int), 5)) else (zau.l1 k x5 x6 x10 x16 x17 x18 x9 0)
def zau.l1 : Nat → List Int → Int → Int → List Int → Int → Int → Int → Int → Option (List Int × Int)
 | 0, _, _, _, _, _, _, _, _ => none
 | k + 1, x5, x6, x10, x16, x17, x18, x40, x41 => if x41 < x40 then (if x5.length < 17592186044416 then (zau.l1 k (x5 ++ [x10]) x6 x10 x16 x17 x18 x40 (wrap64 (x41 + 1))) else (none)) else (zau.l0 k x5 x6 x16 x17 (wrap64 (x18 + 1)))
end
def zau.f (k : Nat) (l0 : List Int) : Option (List Int × Int) := (zbq.f k l0).bind fun t200 => (if t200 = 0 then (zau.l0 k ([] : List Int) 1 l0 (l0.length : Int) 0) else (some (([] : List Int), t200)))
theorem zau.calls (k : Nat) (A0 : Option Addr) (c0 : Nat) (l0 : List Int) (r1 : List Int) (r2 : Int) (w : World) (hr0 : Kd.C (Kd.int .i64) w A0 l0.length l0) (hc0 : l0.length ≤ c0) (h : zau.f k l0 = some (r1, r2)) :
  Calls Tryd.prog 39 #[.slice A0 l0.length c0] w fun e w' => ∃ v0_ : Value, e = .returned (.tuple #[v0_, .int .i64 r2]) ∧ Kd.R (Kd.int .i64) 3 w' w.heap.size (fun _ => True) v0_ r1 ∧ Below w.heap.size w w' := by
 have HR0 := zaa.mk hr0
 have HC0 := zaa.mk hc0
 clear hr0 hc0
 have HB := zaa.mk (Below.refl w.heap.size w)
 have H : ((zbq.f k l0).bind fun t200 => (if t200 = 0 then (zau.l0 k ([] : List Int) 1 l0 (l0.length : Int) 0) else (some (([] : List Int), t200)))) = some (r1, r2) := h
 clear h
 replace H := Option.bind_eq_some_iff.mp H
 obtain ⟨t200, A20, H⟩ := H
 have A2 := zaa.mk A20
 clear A20
 by_cases c3 : t200 = 0
 ·rw [if_pos c3] at H
  have c3b0 : (t200 == 0) = true := beq_iff_eq.mpr c3
  have c3b1 : (t200 != 0) = false := bne_eq_false_iff_eq.mpr c3
  clear c3
  have H' := zaa.mk H
  clear H
  go_enter Tryd.func39, Tryd.ntmps39
  go_wp2_with (first | ((with_reducible refine zbc (f := 61) rfl ?_); refine zb6 (some 12) rfl rfl Tryd.func61 (by kernel_rfl) rfl #[.slice A0 l0.length c0] rfl (by (try simp only [List.map_toArray, List.map_cons, List.map_nil]); first | done | rfl | (simp only [List.length_drop, List.length_take]; rfl)) ?_; (with_reducible refine (zbq.calls k _ _ l0 t200 _ ?side1 ?side2 A2.out).mono ?_); (case side1 => exact HR0.out); (case side2 => exact HC0.out); rintro e w' ⟨rfl, ⟨nd, rfl⟩⟩; refine ⟨_, rfl, ?_⟩))
  go_loopg [5, 6, 18] k (fun kq v5 v6 v18 w' => ∃ (x5_1 : List Int) (x6_1 : Int) (x18_1 : Int), v6 = .int .i64 x6_1 ∧ v18 = .int .i64 x18_1 ∧ zaa (zau.l0 kq x5_1 x6_1 l0 (l0.length : Int) x18_1 = some (r1, r2)) ∧ zaa (kq ≤ k) ∧ zaa (Kd.R (Kd.int .i64) 3 w' w.heap.size (fun _ => True) v5 x5_1) ∧ zaa (Below w.heap.size w w'))
  case atStart => exact ⟨(([] : List Int)), (1), (0), (by first | rfl | simp), (by first | rfl | simp), H', ⟨Nat.le_refl _⟩, ⟨by first | exact Kd.R_nil _ _ _ _ _ | exact Kd.N_nil _ _ _ _ _ | exact Kd.V_nil _ _ _ _ _ | exact Kd.Q_nil _ _ _ _ _ | exact Kd.S_nil _ _ _ _ _⟩, ⟨by repeat (first | exact HB.out | apply zac | apply zab | apply zad)⟩⟩
  case round =>
   clear H'
   obtain ⟨x5_1, x6_1, x18_1, rfl, rfl, HA, HK1, HO_5, HB⟩ := hrel
   cases gk with
   | zero => exact absurd HA.out (by simp [zau.l0])
   | succ k1 =>
    have H := HA.out
    clear HA
    simp only [zau.l0] at H
    by_cases c4 : x18_1 < (l0.length : Int)
    ·rw [if_pos c4] at H
     have c4b0 : decide (x18_1 < (l0.length : Int)) = true := decide_eq_true c4
     clear c4
     by_cases c5 : 0 ≤ x18_1
     ·rw [if_pos c5] at H
      have c5b0 : decide (0 ≤ x18_1) = true := decide_eq_true c5
      clear c5
      by_cases c6 : x18_1 < (l0.length : Int)
      ·rw [if_pos c6] at H
       have c6b0 : decide (x18_1 < (l0.length : Int)) = true := decide_eq_true c6
       clear c6
       have HC7 := zaa.mk H
       clear H
       have p201 : 0 ≤ (x18_1 : Int) := of_decide_eq_true (by assumption)
       have q201 : x18_1 < (l0.length : Int) := of_decide_eq_true (by assumption)
       obtain ⟨ad201, e201, hx201_0⟩ := Kd.at_int HR0.out x18_1 p201 q201
       cases e201
       replace hx201_0 := (HB.out.cell (World.block_lt_of_cell? w _ hx201_0)).trans hx201_0
       replace p201 := eq_true p201
       replace q201 := eq_true q201
       go_upto_block 2 with (fail)
       go_cut [6, 9, 10] (fun v6 v9 v10 wc => ∃ (kq : Nat) (x6_6 : Int) (x9_6 : Int) (x10_6 : Int), v6 = .int .i64 x6_6 ∧ v9 = .int .i64 x9_6 ∧ v10 = .int .i64 x10_6 ∧ zaa (zau.j1 kq x5_1 x6_6 x9_6 x10_6 l0 (l0.length : Int) x18_1 = some (r1, r2)) ∧ zaa (kq ≤ k1) ∧ zaa (Kd.R (Kd.int .i64) 3 wc w.heap.size (fun _ => True) u5 x5_1) ∧ zaa (Below w.heap.size w wc))
       case first =>
        have H := HC7.out
        clear HC7
        by_cases c8 : (rd l0 x18_1) = 1
        ·rw [if_pos c8] at H
         have c8b0 : ((rd l0 x18_1) == 1) = true := beq_iff_eq.mpr c8
         have c8b1 : ((rd l0 x18_1) != 1) = false := bne_eq_false_iff_eq.mpr c8
         clear c8
         (first | rw [c8b0] | (simp only [i64_w, i32_w]; rw [c8b0]) | rw [c8b1] | skip)
         have H' := zaa.mk H
         clear H
         go_wp2
         go_meet
         case rel => exact ⟨_, (wrap64 (x6_1 * 2)), (wrap64 (x6_1 + x6_1)), (0), (by first | rfl | simp), (by first | rfl | simp), (by first | rfl | simp), H', ⟨by have := HK1.out; first | omega | exact Nat.le_refl _⟩, ⟨by (with_reducible repeat (first | apply Kd.R_alloc | apply Kd.R_drewN | apply Kd.R_drew)); exact HO_5.out⟩, ⟨by repeat (first | exact HB.out | apply zac | apply zab | apply zad)⟩⟩
        ·rw [if_neg c8] at H
         have c8b0 : ((rd l0 x18_1) == 1) = false := beq_eq_false_iff_ne.mpr c8
         have c8b1 : ((rd l0 x18_1) != 1) = true := bne_iff_ne.mpr c8
         (first | rw [c8b0] | (simp only [i64_w, i32_w]; rw [c8b0]) | rw [c8b1] | skip)
         by_cases c9 : (rd l0 x18_1) = 0
         ·rw [if_pos c9] at H
          have c9b0 : ((rd l0 x18_1) == 0) = true := beq_iff_eq.mpr c9
          have c9b1 : ((rd l0 x18_1) != 0) = false := bne_eq_false_iff_eq.mpr c9
          clear c9
          have H' := zaa.mk H
          clear H
          go_wp2
          go_meet
          case rel => exact ⟨_, (wrap64 (x6_1 * 2)), (wrap64 (0 + x6_1)), (0), (by first | rfl | simp), (by first | rfl | simp), (by first | rfl | simp), H', ⟨by have := HK1.out; first | omega | exact Nat.le_refl _⟩, ⟨by (with_reducible repeat (first | apply Kd.R_alloc | apply Kd.R_drewN | apply Kd.R_drew)); exact HO_5.out⟩, ⟨by repeat (first | exact HB.out | apply zac | apply zab | apply zad)⟩⟩
         ·rw [if_neg c9] at H
          have c9b0 : ((rd l0 x18_1) == 0) = false := beq_eq_false_iff_ne.mpr c9
          have c9b1 : ((rd l0 x18_1) != 0) = true := bne_iff_ne.mpr c9
          have H' := zaa.mk H
          clear H
          go_wp2
          go_meet
          case rel => exact ⟨_, (1), (1), (wrap64 ((rd l0 x18_1) - 1)), (by first | rfl | simp), (by first | rfl | simp), (by first | rfl | simp), H', ⟨by have := HK1.out; first | omega | exact Nat.le_refl _⟩, ⟨by (with_reducible repeat (first | apply Kd.R_alloc | apply Kd.R_drewN | apply Kd.R_drew)); exact HO_5.out⟩, ⟨by repeat (first | exact HB.out | apply zac | apply zab | apply zad)⟩⟩
       case rest =>
        clear HC7
        obtain ⟨kq, x6_6, x9_6, x10_6, rfl, rfl, rfl, HA, HJ6, HO_5, HB⟩ := hcut
        cases kq with
        | zero => exact absurd HA.out (by simp [zau.j1])
        | succ kj6 =>
         have H := HA.out
         clear HA
         simp only [zau.j1] at H
         by_cases c10 : x9_6 > (wrap64 (1048576 - (x5_1.length : Int)))
         ·rw [if_pos c10] at H
          have c10b0 : decide ((wrap64 (1048576 - (x5_1.length : Int))) < x9_6) = true := decide_eq_true c10
          clear c10
          simp only [Option.some.injEq, Prod.mk.injEq] at H
          obtain ⟨rfl, rfl⟩ := H
          obtain ⟨Ao11, co11, eo11⟩ := Kd.R_slice HO_5.out
          subst eo11
          go_wp2
          go_ret2
          exact ⟨_, by first | rfl | (simp [errW_none, errW_some] <;> rfl) | (simp [*, errW_none, errW_some] <;> rfl), by first | exact Kd.R_nil _ _ _ _ _ | exact Kd.N_nil _ _ _ _ _ | exact Kd.V_nil _ _ _ _ _ | exact Kd.Q_nil _ _ _ _ _ | exact Kd.S_nil _ _ _ _ _, by repeat (first | exact HB.out | apply zac | apply zab | apply zad)⟩
         ·rw [if_neg c10] at H
          have c10b0 : decide ((wrap64 (1048576 - (x5_1.length : Int))) < x9_6) = false := decide_eq_false c10
          clear c10
          have H' := zaa.mk H
          clear H
          obtain ⟨Ao12, co12, eo12⟩ := Kd.R_slice HO_5.out
          subst eo12
          go_wp2
          go_loopg [5, 41] kj6 (fun kq v5 v41 w' => ∃ (x5_3 : List Int) (x41_3 : Int), v41 = .int .i64 x41_3 ∧ zaa (zau.l1 kq x5_3 x6_6 x10_6 l0 (l0.length : Int) x18_1 x9_6 x41_3 = some (r1, r2)) ∧ zaa (kq ≤ kj6) ∧ zaa (Kd.R (Kd.int .i64) 3 w' w.heap.size (fun _ => True) v5 x5_3) ∧ zaa (Below w.heap.size w w'))
          case atStart => exact ⟨(x5_1), (0), (by first | rfl | simp), H', ⟨Nat.le_refl _⟩, ⟨by (with_reducible repeat (first | apply Kd.R_alloc | apply Kd.R_drewN | apply Kd.R_drew)); exact HO_5.out⟩, ⟨by repeat (first | exact HB.out | apply zac | apply zab | apply zad)⟩⟩
          case round =>
           clear H'
           obtain ⟨x5_3, x41_3, rfl, HA, HK3, HO_5, HB⟩ := hrel
           cases gk with
           | zero => exact absurd HA.out (by simp [zau.l1])
           | succ k3 =>
            have H := HA.out
            clear HA
            simp only [zau.l1] at H
            by_cases c13 : x41_3 < x9_6
            ·rw [if_pos c13] at H
             have c13b0 : decide (x41_3 < x9_6) = true := decide_eq_true c13
             clear c13
             by_cases c14 : x5_3.length < 17592186044416
             ·rw [if_pos c14] at H
              have LMc14 := zaa.mk c14
              clear c14
              obtain ⟨y202, hy202⟩ : ∃ y_ : List Int, y_ = (x5_3 ++ [x10_6]) := ⟨_, rfl⟩
              replace H : (zau.l1 k3 y202 x6_6 x10_6 l0 (l0.length : Int) x18_1 x9_6 (wrap64 (x41_3 + 1))) = some (r1, r2) := by first | (rw [hy202]; with_reducible exact H) | (have H2_ := (Option.bind_some _ _).symm.trans H; rw [hy202]; with_reducible exact H2_) | (have H2_ := (Option.bind_some _ _).symm.trans H; with_reducible exact H2_) | with_reducible exact H | (rw [hy202]; exact H) | exact H
              have Ny202 := zaa.mk hy202
              clear hy202
              have H' := zaa.mk H
              clear H
              go_wp2_with (first | ((with_reducible refine zaw (b := .append) (xs := #[.tmp 43, .tmp 45]) rfl ?_); at_builtin; refine Kd.R_append (Kd.int .i64) (w0 := w) w.heap.size rfl (.tmp 43) (.tmp 45) 29 3 (.int .i64 0) 8 rfl Tryd.underlying29 info3 rfl (by decide) (by omega) u5 x5_3 x10_6 [.int .i64 x10_6] (fun _ => True) (fun _ => False) rfl rfl ?aP (fun _ hk => hk.elim) ?aF ?aO ?aB ?aS ?aL ?_; (case aP => exact rfl); (case aB => exact HB.out); (case aF => exact (fun _ _ => trivial)); (case aO => exact HO_5.out); (case aS => exact (zam HB.out)); (case aL => have := LMc14.out; omega); intro v203 w15 ho hb hg hat; rw [← Ny202.out] at ho; have n0_ := zaa.mk (hb); have n1_ := zaa.mk (ho); clear HB; clear HO_5; have HB := n0_; have HO204 := n1_; clear n0_ n1_; clear ho hb hg hat))
              go_roundg k3
              case measure => have := HK1.out; have := HJ6.out; have := HK3.out; omega
              case rel => exact ⟨(y202), (wrap64 (x41_3 + 1)), (by first | rfl | simp), H', ⟨by have := HK1.out; have := HJ6.out; have := HK3.out; omega⟩, ⟨by (with_reducible repeat (first | apply Kd.R_alloc | apply Kd.R_drewN | apply Kd.R_drew)); exact HO204.out⟩, ⟨by repeat (first | exact HB.out | apply zac | apply zab | apply zad)⟩⟩
             ·rw [if_neg c14] at H
              exact absurd H (by simp)
            ·rw [if_neg c13] at H
             have c13b0 : decide (x41_3 < x9_6) = false := decide_eq_false c13
             clear c13
             have H' := zaa.mk H
             clear H
             go_wp2
             go_roundg k3
             case measure => have := HK1.out; have := HJ6.out; have := HK3.out; omega
             case rel => exact ⟨(x5_3), (x6_6), (wrap64 (x18_1 + 1)), (by first | rfl | simp), (by first | rfl | simp), H', ⟨by have := HK1.out; have := HJ6.out; have := HK3.out; omega⟩, ⟨by (with_reducible repeat (first | apply Kd.R_alloc | apply Kd.R_drewN | apply Kd.R_drew)); exact HO_5.out⟩, ⟨by repeat (first | exact HB.out | apply zac | apply zab | apply zad)⟩⟩
      ·rw [if_neg c6] at H
       exact absurd H (by simp)
     ·rw [if_neg c5] at H
      exact absurd H (by simp)
    ·rw [if_neg c4] at H
     have c4b0 : decide (x18_1 < (l0.length : Int)) = false := decide_eq_false c4
     clear c4
     simp only [Option.some.injEq, Prod.mk.injEq] at H
     obtain ⟨rfl, rfl⟩ := H
     go_wp2
     go_ret2
     exact ⟨_, by first | rfl | (simp [errW_none, errW_some] <;> rfl) | (simp [*, errW_none, errW_some] <;> rfl), by (with_reducible repeat (first | apply Kd.R_alloc | apply Kd.R_drewN | apply Kd.R_drew)); exact HO_5.out, by repeat (first | exact HB.out | apply zac | apply zab | apply zad)⟩
 ·rw [if_neg c3] at H
  simp only [Option.some.injEq, Prod.mk.injEq] at H
  obtain ⟨rfl, rfl⟩ := H
  go_enter Tryd.func39, Tryd.ntmps39
  go_wp2_with (first | ((with_reducible refine zbc (f := 61) rfl ?_); refine zb6 (some 12) rfl rfl Tryd.func61 (by kernel_rfl) rfl #[.slice A0 l0.length c0] rfl (by (try simp only [List.map_toArray, List.map_cons, List.map_nil]); first | done | rfl | (simp only [List.length_drop, List.length_take]; rfl)) ?_; (with_reducible refine (zbq.calls k _ _ l0 t200 _ ?side1 ?side2 A2.out).mono ?_); (case side1 => exact HR0.out); (case side2 => exact HC0.out); rintro e w' ⟨rfl, ⟨nd, rfl⟩⟩; refine ⟨_, rfl, ?_⟩))
  go_ret2
  exact ⟨_, by first | rfl | (simp [errW_none, errW_some] <;> rfl) | (simp [*, errW_none, errW_some] <;> rfl), by first | exact Kd.R_nil _ _ _ _ _ | exact Kd.N_nil _ _ _ _ _ | exact Kd.V_nil _ _ _ _ _ | exact Kd.Q_nil _ _ _ _ _ | exact Kd.S_nil _ _ _ _ _, by repeat (first | exact HB.out | apply zac | apply zab | apply zad)⟩
-- NOT PRINTED: function 40 (sorted_check)
def zbz.f (a0_0 : ByteArray) (a0_1 : Int) (a1 : Int) : Option (Int) := if a1 > a0_1 then (if 0 ≤ (wrap64 (a1 - 1)) then (if (wrap64 (a1 - 1)) < (a0_0.size : Int) then (some (bt a0_0 (wrap64 (a1 - 1)))) else (none)) else (none)) else (if 0 ≤ a1 then (if a1 < (a0_0.size : Int) then (some (bt a0_0 a1)) else (none)) else (none))
theorem zbz.calls (a0_0 : ByteArray) (a0_1 : Int) (a1 : Int) (r : Int) (w : World) (h : zbz.f a0_0 a0_1 a1 = some r) :
  Calls Tryd.prog 62 #[.agg #[.string a0_0, .int .i64 a0_1], .int .i64 a1] w fun e w' => e = .returned (.int .u8 r) ∧ Below w.heap.size w w' := by
 have hu108 := Tryd.underlying108
 have HB := zaa.mk (Below.refl w.heap.size w)
 have H : (if a1 > a0_1 then (if 0 ≤ (wrap64 (a1 - 1)) then (if (wrap64 (a1 - 1)) < (a0_0.size : Int) then (some (bt a0_0 (wrap64 (a1 - 1)))) else (none)) else (none)) else (if 0 ≤ a1 then (if a1 < (a0_0.size : Int) then (some (bt a0_0 a1)) else (none)) else (none))) = some r := h
 clear h
 by_cases c3 : a1 > a0_1
 ·rw [if_pos c3] at H
  have c3b0 : decide (a0_1 < a1) = true := decide_eq_true c3
  clear c3
  obtain ⟨ji4, hji4⟩ : ∃ j_ : Int, (wrap64 (a1 - 1)) = j_ := ⟨_, rfl⟩
  replace H : (if 0 ≤ (ji4) then (if (ji4) < (a0_0.size : Int) then (some (bt a0_0 (ji4))) else (none)) else (none)) = some r := by first | (rw [hji4] at H; exact H) | (simp only [hji4] at H ⊢; exact H)
  have hji4w : (IntKind.i64.wrap (a1 - 1)) = ji4 := (i64_w _).trans hji4
  by_cases c5 : 0 ≤ (ji4)
  ·rw [if_pos c5] at H
   have c5b0 : decide (0 ≤ (ji4)) = true := decide_eq_true c5
   clear c5
   by_cases c6 : (ji4) < (a0_0.size : Int)
   ·rw [if_pos c6] at H
    have c6b0 : decide ((ji4) < (a0_0.size : Int)) = true := decide_eq_true c6
    clear c6
    obtain rfl := Option.some.inj H
    go_enter Tryd.func62, Tryd.ntmps62
    go_wp2_with (first | ((with_reducible refine zay (N := 2) rfl ?_); refine zcq ?hg (N := 2) ?hd (cs := #[.string a0_0, .int .i64 a0_1]) (t := 108) ?hr ?_; (case hd => rfl); (case hg => rfl); (case hr => first | (go_simp; done) | (go_simp; rfl)); intro gb205 hg w8 hbox hb; have n0_ := zaa.mk (zaf HB.out hb); have n1_ := zaa.mk (hbox); have n2_ := zaa.mk ((by rw [hg]; exact (zam HB.out) : w.heap.size ≤ gb205)); have n3_ := zaa.mk ((by rw [hg]; exact (zam HB.out) : w.heap.size ≤ gb205)); clear HB; have HB := n0_; have BK205 := n1_; have GW205 := n2_; have GE205 := n3_; clear n0_ n1_ n2_ n3_; clear hb hbox hg; have hcz9_0 : w8.cell? ⟨gb205, 0, none⟩ = some (.string a0_0) := (zah BK205.out 0).trans rfl; have hcz9_1 : w8.cell? ⟨gb205, 1, none⟩ = some (.int .i64 a0_1) := (zah BK205.out 1).trans rfl; have hfz9_0 := zao BK205.out 0; have hfz9_1 := zao BK205.out 1; have p7 : 0 ≤ ((ji4) : Int) := of_decide_eq_true (by assumption); have q7 : (ji4) < (a0_0.size : Int) := of_decide_eq_true (by assumption); have hx7 := bt_at a0_0 (ji4); replace p7 := eq_true p7; replace q7 := eq_true q7))
    go_ret
    exact ⟨by first | rfl | (simp [errW_none, errW_some] <;> rfl) | (simp only [← hji4]; first | rfl | (simp [errW_none, errW_some] <;> rfl)) | (simp [*, errW_none, errW_some] <;> rfl), by repeat (first | exact HB.out | apply zac | apply zab | apply zad | refine zat ?_ GE205.out)⟩
   ·rw [if_neg c6] at H
    exact absurd H (by simp)
  ·rw [if_neg c5] at H
   exact absurd H (by simp)
 ·rw [if_neg c3] at H
  have c3b0 : decide (a0_1 < a1) = false := decide_eq_false c3
  clear c3
  by_cases c10 : 0 ≤ a1
  ·rw [if_pos c10] at H
   have c10b0 : decide (0 ≤ a1) = true := decide_eq_true c10
   clear c10
   by_cases c11 : a1 < (a0_0.size : Int)
   ·rw [if_pos c11] at H
    have c11b0 : decide (a1 < (a0_0.size : Int)) = true := decide_eq_true c11
    clear c11
    obtain rfl := Option.some.inj H
    go_enter Tryd.func62, Tryd.ntmps62
    go_wp2_with (first | ((with_reducible refine zay (N := 2) rfl ?_); refine zcq ?hg (N := 2) ?hd (cs := #[.string a0_0, .int .i64 a0_1]) (t := 108) ?hr ?_; (case hd => rfl); (case hg => rfl); (case hr => first | (go_simp; done) | (go_simp; rfl)); intro gb205 hg w13 hbox hb; have n0_ := zaa.mk (zaf HB.out hb); have n1_ := zaa.mk (hbox); have n2_ := zaa.mk ((by rw [hg]; exact (zam HB.out) : w.heap.size ≤ gb205)); have n3_ := zaa.mk ((by rw [hg]; exact (zam HB.out) : w.heap.size ≤ gb205)); clear HB; have HB := n0_; have BK205 := n1_; have GW205 := n2_; have GE205 := n3_; clear n0_ n1_ n2_ n3_; clear hb hbox hg; have hcz14_0 : w13.cell? ⟨gb205, 0, none⟩ = some (.string a0_0) := (zah BK205.out 0).trans rfl; have hcz14_1 : w13.cell? ⟨gb205, 1, none⟩ = some (.int .i64 a0_1) := (zah BK205.out 1).trans rfl; have hfz14_0 := zao BK205.out 0; have hfz14_1 := zao BK205.out 1; have p12 : 0 ≤ (a1 : Int) := of_decide_eq_true (by assumption); have q12 : a1 < (a0_0.size : Int) := of_decide_eq_true (by assumption); have hx12 := bt_at a0_0 a1; replace p12 := eq_true p12; replace q12 := eq_true q12))
    go_ret
    exact ⟨by first | rfl | (simp [errW_none, errW_some] <;> rfl) | (simp [*, errW_none, errW_some] <;> rfl), by repeat (first | exact HB.out | apply zac | apply zab | apply zad | refine zat ?_ GE205.out)⟩
   ·rw [if_neg c11] at H
    exact absurd H (by simp)
  ·rw [if_neg c10] at H
   exact absurd H (by simp)
-- NOT PRINTED: function 63 (bwt_column_ahead)
-- NOT PRINTED: function 19 (sorted_read)
-- NOT PRINTED: function 43 (reflectlite_ValueOf)
-- NOT PRINTED: function 44 (reflectlite_Value_Type)
-- NOT PRINTED: function 45 (reflectlite_Value_IsNil)
-- NOT PRINTED: function 64 (reflectlite_TypeOf)
-- NOT PRINTED: function 65 (reflectlite_Value_Elem)
-- NOT PRINTED: function 66 (reflectlite_Value_Set)
-- NOT PRINTED: function 46 (errors_as)
-- NOT PRINTED: function 20 (errors_As)
-- NOT PRINTED: function 8 (sorted_Read)
end Go.Proofs.YtdifgiceallpiaaDoor.P
