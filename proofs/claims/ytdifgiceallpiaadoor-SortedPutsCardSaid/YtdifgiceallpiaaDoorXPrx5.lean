/- Words of this seat. -/
import Derived.Test.YtdifgiceallpiaaDoorXPrx0
import Derived.Test.YtdifgiceallpiaaDoorXPrx1
import Derived.Test.YtdifgiceallpiaaDoorXPrx2
import Derived.Test.YtdifgiceallpiaaDoorXPrx3
import Derived.Test.YtdifgiceallpiaaDoorXPrx4
import Derived.Test.YtdifgiceallpiaaDoorXPureRgBack
import Derived.Test.YtdifgiceallpiaaDoorXPureSo
import Derived.Test.YtdifgiceallpiaaDoorXHAs
set_option linter.unusedVariables false
set_option linter.unusedSimpArgs false
set_option linter.unusedSectionVars false
section
-- Laid by this session's driver (wip/tools/myprint.py) over the kit's print program.
namespace Go.Proofs.YtdifgiceallpiaaDoor.Pa
end Go.Proofs.YtdifgiceallpiaaDoor.Pa
namespace Go.Proofs.YtdifgiceallpiaaDoor.Hd
end Go.Proofs.YtdifgiceallpiaaDoor.Hd
namespace Go.Proofs.YtdifgiceallpiaaDoor.Pr
open Go.RowKit YtdifgiceallpiaaDoor.Pa YtdifgiceallpiaaDoor.Hd YtdifgiceallpiaaDoorW.PrintWords YtdifgiceallpiaaDoorW.PrintLast YtdifgiceallpiaaDoorW.PrintMore
attribute [local go_sem] za9 za8 zbi zbj za0 za1 zba zbb   -- for this text's walks alone
mutual
def zae.j0 : Nat → List Int → Int → Bool → Option (ByteArray × Int)
 | 0, _, _, _ => none
 | k + 1, x0, x1, x20 => if x20 = true then (some ((⟨#[]⟩ : ByteArray), 1)) else ((zav.f k x1).bind fun t190 => (zae.l0 k x0 x1 t190 ([] : List Bool) ([] : List Int) 0))
def zae.l0 : Nat → List Int → Int → List Int → List Bool → List Int → Int → Option (ByteArray × Int)
 | 0, _, _, _, _, _, _ => none
 | k + 1, x0, x1, x6, x7, x8, x9 => if x9 < (x0.length : Int) then (if 0 ≤ x9 then (if (rd x0 x9) < 0 then (zae.j2 k x0 x1 x6 x7 x8 x9 true) else (if 0 ≤ (IntKind.u64.wrap (x1)) then (zae.j2 k x0 x1 x6 x7 x8 x9 (decide ((rd x0 x9) ≥ (shl .i64 1 (IntKind.u64.wrap (x1)))))) else (none))) else (none)) else ((zan.f k x7 x8).bind fun bt193 => (some (bt193.1, bt193.2)))
def zae.j2 : Nat → List Int → Int → List Int → List Bool → List Int → Int → Bool → Option (ByteArray × Int)
 | 0, _, _, _, _, _, _, _ => none
 | k + 1, x0, x1, x6, x7, x8, x9, x43 => if x43 = true then (some ((⟨#[]⟩ : ByteArray), 2)) else (zae.l1 k x0 x1 x6 x7 x8 x9 1 (wrap64 (x1 - 1)))
def zae.l1 : Nat → List Int → Int → List Int → List Bool → List Int → Int → Int → Int → Option (ByteArray × Int)
 | 0, _, _, _, _, _, _, _, _ => none
 | k + 1, x0, x1, x6, x7, x8, x9, x10, x11 => if x11 ≥ 0 then (if 0 ≤ x9 then (if x9 < (x0.length : Int) then (if 0 ≤ (IntKind.u64.wrap (x11)) then (if x7.length < 140737488355328 then ((some (x7 ++ [((Go.bits .and .i64 (shr .i64 (rd x0 x9) (IntKind.u64.wrap (x11))) 1) == 1)] : List Bool)).bind fun y198 => (if 0 ≤ x10 then (if x10 < (x6.length : Int) then (if x8.length < 17592186044416 then ((some (x8 ++ [rd x6 x10] : List Int)).bind fun y202 => ((zbf.f (rd x6 x10) ((Go.bits .and .i64 (shr .i64 (rd x0 x9) (IntKind.u64.wrap (x11))) 1) == 1)).bind fun bt206 => ((some (x6.set (x10 : Int).toNat bt206.1 : List Int)).bind fun y208 => (if (Go.bits .and .i64 (shr .i64 (rd x0 x9) (IntKind.u64.wrap (x11))) 1) = 1 then (zae.l1 k x0 x1 y208 y198 y202 x9 (wrap64 ((wrap64 (x10 * 2)) + 1)) (wrap64 (x11 - 1))) else (zae.l1 k x0 x1 y208 y198 y202 x9 (wrap64 (x10 * 2)) (wrap64 (x11 - 1))))))) else (none)) else (none)) else (none))) else (none)) else (none)) else (none)) else (none)) else (zae.l0 k x0 x1 x6 x7 x8 (wrap64 (x9 + 1)))
end
def zae.f (k : Nat) (l0 : List Int) (a1 : Int) : Option (ByteArray × Int) := if a1 < 1 then (zae.j0 k l0 a1 true) else (zae.j0 k l0 a1 (decide (a1 > 9)))
set_option maxHeartbeats 8000000 in
set_option maxRecDepth 100000 in
theorem zae.calls (k : Nat) (A0 : Option Addr) (c0 : Nat) (l0 : List Int) (a1 : Int) (r1 : ByteArray) (r2 : Int) (w : World) (hr0 : Kd.C (Kd.int .i64) w A0 l0.length l0) (hc0 : l0.length ≤ c0) (h : zae.f k l0 a1 = some (r1, r2)) :
  Calls Tryd.prog 18 #[.slice A0 l0.length c0, .int .i64 a1] w fun e w' => e = .returned (.tuple #[.string r1, .int .i64 r2]) ∧ Below w.heap.size w w' := by
 have HR0 := zaa.mk hr0
 have HC0 := zaa.mk hc0
 clear hr0 hc0
 have HB := zaa.mk (Below.refl w.heap.size w)
 have H : (if a1 < 1 then (zae.j0 k l0 a1 true) else (zae.j0 k l0 a1 (decide (a1 > 9)))) = some (r1, r2) := h
 clear h
 have HC3 := zaa.mk H
 clear H
 go_enter Tryd.func18, Tryd.ntmps18
 go_upto_region 1 with (fail)
 go_cut [20] (fun v20 wc => ∃ (kq : Nat) (x20_2 : Bool), v20 = .bool x20_2 ∧ zaa (zae.j0 kq l0 a1 x20_2 = some (r1, r2)) ∧ zaa (kq ≤ k) ∧ zaa (Below w.heap.size w wc))
 case first =>
  have H := HC3.out
  clear HC3
  by_cases c4 : a1 < 1
  ·rw [if_pos c4] at H
   have c4b0 : decide (a1 < 1) = true := decide_eq_true c4
   clear c4
   (first | rw [c4b0] | (simp only [i64_w, i32_w]; rw [c4b0]) | skip)
   have H' := zaa.mk H
   clear H
   go_wp2
   go_meet
   case rel => exact ⟨_, (true), rfl, H', ⟨by first | omega | exact Nat.le_refl _⟩, ⟨by repeat (first | exact HB.out | apply zac | apply zab | apply zad)⟩⟩
  ·rw [if_neg c4] at H
   have c4b0 : decide (a1 < 1) = false := decide_eq_false c4
   clear c4
   (first | rw [c4b0] | (simp only [i64_w, i32_w]; rw [c4b0]) | skip)
   have H' := zaa.mk H
   clear H
   go_wp2
   go_meet
   case rel => exact ⟨_, (decide (a1 > 9)), rfl, H', ⟨by first | omega | exact Nat.le_refl _⟩, ⟨by repeat (first | exact HB.out | apply zac | apply zab | apply zad)⟩⟩
 case rest =>
  clear HC3
  obtain ⟨kq, x20_2, rfl, HA, HJ2, HB⟩ := hcut
  cases kq with
  | zero => exact absurd HA.out (by simp [zae.j0])
  | succ kj2 =>
   have H := HA.out
   clear HA
   simp only [zae.j0] at H
   by_cases c5 : x20_2 = true
   ·subst c5
    rw [if_pos rfl] at H; have H1 := H
    clear H
    have H := H1
    clear H1
    simp only [Option.some.injEq, Prod.mk.injEq] at H
    obtain ⟨rfl, rfl⟩ := H
    go_wp2
    go_ret2
    exact ⟨by first | rfl | (simp [errW_none, errW_some] <;> rfl) | (simp [*, errW_none, errW_some] <;> rfl), by repeat (first | exact HB.out | apply zac | apply zab | apply zad)⟩
   ·replace c5 := Bool.eq_false_iff.mpr c5
    subst c5
    rw [if_neg (show ¬ (false = true) by decide)] at H; have H1 := H
    clear H
    have H := H1
    clear H1
    replace H := Option.bind_eq_some_iff.mp H
    obtain ⟨t190, A60, H⟩ := H
    have A6 := zaa.mk A60
    clear A60
    have H' := zaa.mk H
    clear H
    go_wp2_with (first | ((with_reducible refine zbc (f := 34) rfl ?_); refine zb6 (some 22) rfl rfl Tryd.func34 (by kernel_rfl) rfl #[.int .i64 a1] rfl (by (try simp only [List.map_toArray, List.map_cons, List.map_nil]); first | done | rfl | (simp only [List.length_drop, List.length_take]; rfl)) ?_; (with_reducible refine (zav.calls kj2 a1 t190 _ A6.out).mono ?_); rintro e w7 ⟨v191, rfl, ho0, hb⟩; refine ⟨_, rfl, ?_⟩; have n0_ := zaa.mk (Kd.R_lower ho0 (zam HB.out)); have n1_ := zaa.mk (zaf HB.out hb); clear HB; have HO192 := n0_; have HB := n1_; clear n0_ n1_; (try clear hb); (try clear hb2); (try clear hk); (try clear hi); (try clear ho0)))
    go_loopg [7, 8, 9] kj2 (fun kq v7 v8 v9 w' => ∃ (x6_2 : List Int) (x7_2 : List Bool) (x8_2 : List Int) (x9_2 : Int), v9 = .int .i64 x9_2 ∧ zaa (zae.l0 kq l0 a1 x6_2 x7_2 x8_2 x9_2 = some (r1, r2)) ∧ zaa (kq ≤ kj2) ∧ zaa (Kd.R (Kd.int .i64) 3 w' w.heap.size (fun k_ => some k_ ≠ (v8 : Value).ownBlock) v191 x6_2) ∧ zaa (Kd.R Kd.bool 4 w' w.heap.size (fun _ => True) v7 x7_2) ∧ zaa (Kd.R (Kd.int .i64) 3 w' w.heap.size (fun k_ => some k_ ≠ (v191 : Value).ownBlock) v8 x8_2) ∧ zaa (Below w.heap.size w w'))
    case atStart => exact ⟨(t190), (([] : List Bool)), (([] : List Int)), (0), rfl, H', ⟨Nat.le_refl _⟩, ⟨by (with_reducible repeat (first | apply Kd.R_alloc | apply Kd.R_drewN | apply Kd.R_drew)); exact Kd.R_mono HO192.out (fun _ hk => (by simp [Value.ownBlock]))⟩, ⟨by first | exact Kd.R_nil _ _ _ _ _ | exact Kd.N_nil _ _ _ _ _ | exact Kd.V_nil _ _ _ _ _ | exact Kd.Q_nil _ _ _ _ _ | exact Kd.S_nil _ _ _ _ _⟩, ⟨by first | exact Kd.R_nil _ _ _ _ _ | exact Kd.N_nil _ _ _ _ _ | exact Kd.V_nil _ _ _ _ _ | exact Kd.Q_nil _ _ _ _ _ | exact Kd.S_nil _ _ _ _ _⟩, ⟨by repeat (first | exact HB.out | apply zac | apply zab | apply zad)⟩⟩
    case round =>
     clear H'
     obtain ⟨x6_2, x7_2, x8_2, x9_2, rfl, HA, HK2, HO_6, HO_7, HO_8, HB⟩ := hrel
     cases gk with
     | zero => exact absurd HA.out (by simp [zae.l0])
     | succ k2 =>
      have H := HA.out
      clear HA
      simp only [zae.l0] at H
      by_cases c8 : x9_2 < (l0.length : Int)
      ·rw [if_pos c8] at H
       have c8b0 : decide (x9_2 < (l0.length : Int)) = true := decide_eq_true c8
       clear c8
       have HC9 := zaa.mk H
       clear H
       go_upto_region 9 with (fail)
       go_cut [43] (fun v43 wc => ∃ (kq : Nat) (x43_8 : Bool), v43 = .bool x43_8 ∧ zaa (zae.j2 kq l0 a1 x6_2 x7_2 x8_2 x9_2 x43_8 = some (r1, r2)) ∧ zaa (kq ≤ k2) ∧ zaa (Kd.R (Kd.int .i64) 3 wc w.heap.size (fun k_ => some k_ ≠ (u8 : Value).ownBlock) v191 x6_2) ∧ zaa (Kd.R Kd.bool 4 wc w.heap.size (fun _ => True) u7 x7_2) ∧ zaa (Kd.R (Kd.int .i64) 3 wc w.heap.size (fun k_ => some k_ ≠ (v191 : Value).ownBlock) u8 x8_2) ∧ zaa (Below w.heap.size w wc))
       case first =>
        have H := HC9.out
        clear HC9
        by_cases c10 : 0 ≤ x9_2
        ·rw [if_pos c10] at H
         have c10b0 : decide (0 ≤ x9_2) = true := decide_eq_true c10
         clear c10
         (first | rw [c10b0] | (simp only [i64_w, i32_w]; rw [c10b0]) | rw [c10b1] | skip)
         by_cases c11 : (rd l0 x9_2) < 0
         ·rw [if_pos c11] at H
          have c11b0 : decide ((rd l0 x9_2) < 0) = true := decide_eq_true c11
          clear c11
          have H' := zaa.mk H
          clear H
          have p195 : 0 ≤ (x9_2 : Int) := of_decide_eq_true (by first | (with_reducible assumption) | assumption)
          have q195 : x9_2 < (l0.length : Int) := of_decide_eq_true (by first | (with_reducible assumption) | assumption)
          obtain ⟨ad195, e195, hx195_0⟩ := Kd.at_int HR0.out x9_2 p195 q195
          cases e195
          replace hx195_0 := (HB.out.cell (World.block_lt_of_cell? w _ hx195_0)).trans hx195_0
          replace p195 := eq_true p195
          replace q195 := eq_true q195
          go_wp2
          go_meet
          case rel => exact ⟨_, (true), rfl, H', ⟨by have := HJ2.out; have := HK2.out; first | omega | exact Nat.le_refl _⟩, ⟨by (with_reducible repeat (first | apply Kd.R_alloc | apply Kd.R_drewN | apply Kd.R_drew)); exact HO_6.out⟩, ⟨by (with_reducible repeat (first | apply Kd.R_alloc | apply Kd.R_drewN | apply Kd.R_drew)); exact HO_7.out⟩, ⟨by (with_reducible repeat (first | apply Kd.R_alloc | apply Kd.R_drewN | apply Kd.R_drew)); exact HO_8.out⟩, ⟨by repeat (first | exact HB.out | apply zac | apply zab | apply zad)⟩⟩
         ·rw [if_neg c11] at H
          have c11b0 : decide ((rd l0 x9_2) < 0) = false := decide_eq_false c11
          clear c11
          obtain ⟨ji12, hji12⟩ : ∃ j_ : Int, (IntKind.u64.wrap (a1)) = j_ := ⟨_, rfl⟩
          replace H : (if 0 ≤ (ji12) then (zae.j2 k2 l0 a1 x6_2 x7_2 x8_2 x9_2 (decide ((rd l0 x9_2) ≥ (shl .i64 1 (ji12))))) else (none)) = some (r1, r2) := by first | (rw [hji12] at H; exact H) | (simp only [hji12] at H ⊢; exact H)
          by_cases c13 : 0 ≤ (ji12)
          ·rw [if_pos c13] at H
           have c13b0 := eq_true c13
           have c13b1 : decide (0 ≤ (ji12)) = true := decide_eq_true c13
           clear c13
           obtain ⟨ji14, hji14⟩ : ∃ j_ : Int, (shl .i64 1 (ji12)) = j_ := ⟨_, rfl⟩
           replace H : (zae.j2 k2 l0 a1 x6_2 x7_2 x8_2 x9_2 (decide ((rd l0 x9_2) ≥ (ji14)))) = some (r1, r2) := by first | (rw [hji14] at H; exact H) | (simp only [hji14] at H ⊢; exact H)
           have hji14_ : (IntKind.i64.wrap (1 * 2 ^ min (ji12).toNat 64)) = ji14 := hji14
           have hji14z : (ji12) ≤ 64 → (IntKind.i64.wrap (1 * 2 ^ (ji12).toNat)) = ji14 := shl_small hji14
           have hji14u : (IntKind.i64.wrap (2 ^ min (ji12).toNat 64)) = ji14 := by have h_ := hji14_; rw [Int.one_mul] at h_; exact h_
           have hji14v : (ji12) ≤ 64 → (IntKind.i64.wrap (2 ^ (ji12).toNat)) = ji14 := fun hle_ => by have h_ := hji14z hle_; rw [Int.one_mul] at h_; exact h_
           have hji14y : (wrap64 (1 * 2 ^ min (ji12).toNat 64)) = ji14 := (i64_w _).symm.trans hji14_
           have hji14x : (ji12) ≤ 64 → (wrap64 (1 * 2 ^ (ji12).toNat)) = ji14 := fun h_ => (i64_w _).symm.trans (hji14z h_)
           have H' := zaa.mk H
           clear H
           have p195 : 0 ≤ (x9_2 : Int) := of_decide_eq_true (by first | (with_reducible assumption) | assumption)
           have q195 : x9_2 < (l0.length : Int) := of_decide_eq_true (by first | (with_reducible assumption) | assumption)
           obtain ⟨ad195, e195, hx195_0⟩ := Kd.at_int HR0.out x9_2 p195 q195
           cases e195
           replace hx195_0 := (HB.out.cell (World.block_lt_of_cell? w _ hx195_0)).trans hx195_0
           replace p195 := eq_true p195
           replace q195 := eq_true q195
           have p196 : 0 ≤ (x9_2 : Int) := of_decide_eq_true (by first | (with_reducible assumption) | assumption)
           have q196 : x9_2 < (l0.length : Int) := of_decide_eq_true (by first | (with_reducible assumption) | assumption)
           obtain ⟨ad196, e196, hx196_0⟩ := Kd.at_int HR0.out x9_2 p196 q196
           obtain rfl : ad195 = ad196 := (by injection e196)
           replace hx196_0 := (HB.out.cell (World.block_lt_of_cell? w _ hx196_0)).trans hx196_0
           replace p196 := eq_true p196
           replace q196 := eq_true q196
           go_wp2
           go_meet
           case rel => exact ⟨_, (decide ((rd l0 x9_2) ≥ (ji14))), (by first | rfl | (simp; done) | (simp only [← hji14] <;> (first | rfl | simp)) | (simp [*]; done)), H', ⟨by have := HJ2.out; have := HK2.out; first | omega | exact Nat.le_refl _⟩, ⟨by (with_reducible repeat (first | apply Kd.R_alloc | apply Kd.R_drewN | apply Kd.R_drew)); exact HO_6.out⟩, ⟨by (with_reducible repeat (first | apply Kd.R_alloc | apply Kd.R_drewN | apply Kd.R_drew)); exact HO_7.out⟩, ⟨by (with_reducible repeat (first | apply Kd.R_alloc | apply Kd.R_drewN | apply Kd.R_drew)); exact HO_8.out⟩, ⟨by repeat (first | exact HB.out | apply zac | apply zab | apply zad)⟩⟩
          ·rw [if_neg c13] at H
           exact absurd H (by simp)
        ·rw [if_neg c10] at H
         exact absurd H (by simp)
       case rest =>
        clear HC9
        obtain ⟨kq, x43_8, rfl, HA, HJ8, HO_6, HO_7, HO_8, HB⟩ := hcut
        cases kq with
        | zero => exact absurd HA.out (by simp [zae.j2])
        | succ kj8 =>
         have H := HA.out
         clear HA
         simp only [zae.j2] at H
         by_cases c15 : x43_8 = true
         ·subst c15
          rw [if_pos rfl] at H; have H1 := H
          clear H
          have H := H1
          clear H1
          simp only [Option.some.injEq, Prod.mk.injEq] at H
          obtain ⟨rfl, rfl⟩ := H
          go_wp2
          go_ret2
          exact ⟨by first | rfl | (simp [errW_none, errW_some] <;> rfl) | (simp [*, errW_none, errW_some] <;> rfl), by repeat (first | exact HB.out | apply zac | apply zab | apply zad)⟩
         ·replace c15 := Bool.eq_false_iff.mpr c15
          subst c15
          rw [if_neg (show ¬ (false = true) by decide)] at H; have H1 := H
          clear H
          have H := H1
          clear H1
          have H' := zaa.mk H
          clear H
          go_wp2
          go_loopg [7, 8, 10, 11] kj8 (fun kq v7 v8 v10 v11 w' => ∃ (x6_4 : List Int) (x7_4 : List Bool) (x8_4 : List Int) (x10_4 : Int) (x11_4 : Int), v10 = .int .i64 x10_4 ∧ v11 = .int .i64 x11_4 ∧ zaa (zae.l1 kq l0 a1 x6_4 x7_4 x8_4 x9_2 x10_4 x11_4 = some (r1, r2)) ∧ zaa (kq ≤ kj8) ∧ zaa (Kd.R (Kd.int .i64) 3 w' w.heap.size (fun k_ => some k_ ≠ (v8 : Value).ownBlock) v191 x6_4) ∧ zaa (Kd.R Kd.bool 4 w' w.heap.size (fun _ => True) v7 x7_4) ∧ zaa (Kd.R (Kd.int .i64) 3 w' w.heap.size (fun k_ => some k_ ≠ (v191 : Value).ownBlock) v8 x8_4) ∧ zaa (Below w.heap.size w w'))
          case atStart => exact ⟨(x6_2), (x7_2), (x8_2), (1), (wrap64 (a1 - 1)), rfl, rfl, H', ⟨Nat.le_refl _⟩, ⟨by (with_reducible repeat (first | apply Kd.R_alloc | apply Kd.R_drewN | apply Kd.R_drew)); exact HO_6.out⟩, ⟨by (with_reducible repeat (first | apply Kd.R_alloc | apply Kd.R_drewN | apply Kd.R_drew)); exact HO_7.out⟩, ⟨by (with_reducible repeat (first | apply Kd.R_alloc | apply Kd.R_drewN | apply Kd.R_drew)); exact HO_8.out⟩, ⟨by repeat (first | exact HB.out | apply zac | apply zab | apply zad)⟩⟩
          case round =>
           clear H'
           obtain ⟨x6_4, x7_4, x8_4, x10_4, x11_4, rfl, rfl, HA, HK4, HO_6, HO_7, HO_8, HB⟩ := hrel
           cases gk with
           | zero => exact absurd HA.out (by simp [zae.l1])
           | succ k4 =>
            have H := HA.out
            clear HA
            simp only [zae.l1] at H
            by_cases c16 : x11_4 ≥ 0
            ·rw [if_pos c16] at H
             have c16b0 : decide (0 ≤ x11_4) = true := decide_eq_true c16
             clear c16
             by_cases c17 : 0 ≤ x9_2
             ·rw [if_pos c17] at H
              have c17b0 : decide (0 ≤ x9_2) = true := decide_eq_true c17
              clear c17
              by_cases c18 : x9_2 < (l0.length : Int)
              ·rw [if_pos c18] at H
               have c18b0 : decide (x9_2 < (l0.length : Int)) = true := decide_eq_true c18
               clear c18
               obtain ⟨ji19, hji19⟩ : ∃ j_ : Int, (IntKind.u64.wrap (x11_4)) = j_ := ⟨_, rfl⟩
               replace H : (if 0 ≤ (ji19) then (if x7_4.length < 140737488355328 then ((some (x7_4 ++ [((Go.bits .and .i64 (shr .i64 (rd l0 x9_2) (ji19)) 1) == 1)] : List Bool)).bind fun y198 => (if 0 ≤ x10_4 then (if x10_4 < (x6_4.length : Int) then (if x8_4.length < 17592186044416 then ((some (x8_4 ++ [rd x6_4 x10_4] : List Int)).bind fun y202 => ((zbf.f (rd x6_4 x10_4) ((Go.bits .and .i64 (shr .i64 (rd l0 x9_2) (ji19)) 1) == 1)).bind fun bt206 => ((some (x6_4.set (x10_4 : Int).toNat bt206.1 : List Int)).bind fun y208 => (if (Go.bits .and .i64 (shr .i64 (rd l0 x9_2) (ji19)) 1) = 1 then (zae.l1 k4 l0 a1 y208 y198 y202 x9_2 (wrap64 ((wrap64 (x10_4 * 2)) + 1)) (wrap64 (x11_4 - 1))) else (zae.l1 k4 l0 a1 y208 y198 y202 x9_2 (wrap64 (x10_4 * 2)) (wrap64 (x11_4 - 1))))))) else (none)) else (none)) else (none))) else (none)) else (none)) = some (r1, r2) := by first | (rw [hji19] at H; exact H) | (simp only [hji19] at H ⊢; exact H)
               by_cases c20 : 0 ≤ (ji19)
               ·rw [if_pos c20] at H
                have c20b0 := eq_true c20
                have c20b1 : decide (0 ≤ (ji19)) = true := decide_eq_true c20
                clear c20
                obtain ⟨ji21, hji21⟩ : ∃ j_ : Int, (shr .i64 (rd l0 x9_2) (ji19)) = j_ := ⟨_, rfl⟩
                replace H : (if x7_4.length < 140737488355328 then ((some (x7_4 ++ [((Go.bits .and .i64 (ji21) 1) == 1)] : List Bool)).bind fun y198 => (if 0 ≤ x10_4 then (if x10_4 < (x6_4.length : Int) then (if x8_4.length < 17592186044416 then ((some (x8_4 ++ [rd x6_4 x10_4] : List Int)).bind fun y202 => ((zbf.f (rd x6_4 x10_4) ((Go.bits .and .i64 (ji21) 1) == 1)).bind fun bt206 => ((some (x6_4.set (x10_4 : Int).toNat bt206.1 : List Int)).bind fun y208 => (if (Go.bits .and .i64 (ji21) 1) = 1 then (zae.l1 k4 l0 a1 y208 y198 y202 x9_2 (wrap64 ((wrap64 (x10_4 * 2)) + 1)) (wrap64 (x11_4 - 1))) else (zae.l1 k4 l0 a1 y208 y198 y202 x9_2 (wrap64 (x10_4 * 2)) (wrap64 (x11_4 - 1))))))) else (none)) else (none)) else (none))) else (none)) = some (r1, r2) := by first | (rw [hji21] at H; exact H) | (simp only [hji21] at H ⊢; exact H)
                have hji21_ : ((rd l0 x9_2) / 2 ^ min (ji19).toNat 64) = ji21 := hji21
                have hji21z : (ji19) ≤ 64 → ((rd l0 x9_2) / 2 ^ (ji19).toNat) = ji21 := shr_small hji21
                by_cases c22 : x7_4.length < 140737488355328
                ·rw [if_pos c22] at H
                 have LMc22 := zaa.mk c22
                 clear c22
                 obtain ⟨y198, hy198⟩ : ∃ y_ : List Bool, y_ = (x7_4 ++ [((Go.bits .and .i64 (ji21) 1) == 1)]) := ⟨_, rfl⟩
                 replace H : (if 0 ≤ x10_4 then (if x10_4 < (x6_4.length : Int) then (if x8_4.length < 17592186044416 then ((some (x8_4 ++ [rd x6_4 x10_4] : List Int)).bind fun y202 => ((zbf.f (rd x6_4 x10_4) ((Go.bits .and .i64 (ji21) 1) == 1)).bind fun bt206 => ((some (x6_4.set (x10_4 : Int).toNat bt206.1 : List Int)).bind fun y208 => (if (Go.bits .and .i64 (ji21) 1) = 1 then (zae.l1 k4 l0 a1 y208 y198 y202 x9_2 (wrap64 ((wrap64 (x10_4 * 2)) + 1)) (wrap64 (x11_4 - 1))) else (zae.l1 k4 l0 a1 y208 y198 y202 x9_2 (wrap64 (x10_4 * 2)) (wrap64 (x11_4 - 1))))))) else (none)) else (none)) else (none)) = some (r1, r2) := by first | (rw [hy198]; with_reducible exact H) | (have H2_ := (Option.bind_some _ _).symm.trans H; rw [hy198]; with_reducible exact H2_) | (have H2_ := (Option.bind_some _ _).symm.trans H; with_reducible exact H2_) | with_reducible exact H | (rw [hy198]; exact H) | exact H
                 have Ny198 := zaa.mk hy198
                 clear hy198
                 by_cases c23 : 0 ≤ x10_4
                 ·rw [if_pos c23] at H
                  have c23b0 : decide (0 ≤ x10_4) = true := decide_eq_true c23
                  clear c23
                  by_cases c24 : x10_4 < (x6_4.length : Int)
                  ·rw [if_pos c24] at H
                   have c24b0 : decide (x10_4 < (x6_4.length : Int)) = true := decide_eq_true c24
                   clear c24
                   by_cases c25 : x8_4.length < 17592186044416
                   ·rw [if_pos c25] at H
                    have LMc25 := zaa.mk c25
                    clear c25
                    obtain ⟨y202, hy202⟩ : ∃ y_ : List Int, y_ = (x8_4 ++ [rd x6_4 x10_4]) := ⟨_, rfl⟩
                    replace H : ((zbf.f (rd x6_4 x10_4) ((Go.bits .and .i64 (ji21) 1) == 1)).bind fun bt206 => ((some (x6_4.set (x10_4 : Int).toNat bt206.1 : List Int)).bind fun y208 => (if (Go.bits .and .i64 (ji21) 1) = 1 then (zae.l1 k4 l0 a1 y208 y198 y202 x9_2 (wrap64 ((wrap64 (x10_4 * 2)) + 1)) (wrap64 (x11_4 - 1))) else (zae.l1 k4 l0 a1 y208 y198 y202 x9_2 (wrap64 (x10_4 * 2)) (wrap64 (x11_4 - 1)))))) = some (r1, r2) := by first | (rw [hy202]; with_reducible exact H) | (have H2_ := (Option.bind_some _ _).symm.trans H; rw [hy202]; with_reducible exact H2_) | (have H2_ := (Option.bind_some _ _).symm.trans H; with_reducible exact H2_) | with_reducible exact H | (rw [hy202]; exact H) | exact H
                    have Ny202 := zaa.mk hy202
                    clear hy202
                    replace H := Option.bind_eq_some_iff.mp H
                    obtain ⟨⟨t206, t207⟩, A260, H⟩ := H
                    have A26 := zaa.mk A260
                    clear A260
                    obtain ⟨y208, hy208⟩ : ∃ y_ : List Int, y_ = (x6_4.set (x10_4 : Int).toNat t206) := ⟨_, rfl⟩
                    replace H : (if (Go.bits .and .i64 (ji21) 1) = 1 then (zae.l1 k4 l0 a1 y208 y198 y202 x9_2 (wrap64 ((wrap64 (x10_4 * 2)) + 1)) (wrap64 (x11_4 - 1))) else (zae.l1 k4 l0 a1 y208 y198 y202 x9_2 (wrap64 (x10_4 * 2)) (wrap64 (x11_4 - 1)))) = some (r1, r2) := by first | (rw [hy208]; with_reducible exact H) | (have H2_ := (Option.bind_some _ _).symm.trans H; rw [hy208]; with_reducible exact H2_) | (have H2_ := (Option.bind_some _ _).symm.trans H; with_reducible exact H2_) | with_reducible exact H | (rw [hy208]; exact H) | exact H
                    have Ny208 := zaa.mk hy208
                    clear hy208
                    by_cases c28 : (Go.bits .and .i64 (ji21) 1) = 1
                    ·rw [if_pos c28] at H
                     have c28b0 : ((Go.bits .and .i64 (ji21) 1) == 1) = true := beq_iff_eq.mpr c28
                     (try (have h_ := A6.out; rw [c28b0] at h_; clear A6; have A6 := zaa.mk h_))
                     (try (have h_ := Ny198.out; rw [c28b0] at h_; clear Ny198; have Ny198 := zaa.mk h_))
                     (try (have h_ := Ny202.out; rw [c28b0] at h_; clear Ny202; have Ny202 := zaa.mk h_))
                     (try (have h_ := A26.out; rw [c28b0] at h_; clear A26; have A26 := zaa.mk h_))
                     (try (have h_ := Ny208.out; rw [c28b0] at h_; clear Ny208; have Ny208 := zaa.mk h_))
                     have c28b1 : ((Go.bits .and .i64 (ji21) 1) != 1) = false := bne_eq_false_iff_eq.mpr c28
                     clear c28
                     have H' := zaa.mk H
                     clear H
                     have p197 : 0 ≤ (x9_2 : Int) := of_decide_eq_true (by first | (with_reducible assumption) | assumption)
                     have q197 : x9_2 < (l0.length : Int) := of_decide_eq_true (by first | (with_reducible assumption) | assumption)
                     obtain ⟨ad197, e197, hx197_0⟩ := Kd.at_int HR0.out x9_2 p197 q197
                     cases e197
                     replace hx197_0 := (HB.out.cell (World.block_lt_of_cell? w _ hx197_0)).trans hx197_0
                     replace p197 := eq_true p197
                     replace q197 := eq_true q197
                     go_wp2_with (first | ((with_reducible refine zaw (b := .append) (xs := #[.tmp 59, .tmp 61]) rfl ?_); at_builtin; refine Kd.R_append Kd.bool (w0 := w) w.heap.size rfl (.tmp 59) (.tmp 61) 55 4 (.bool false) 1 rfl Tryd.underlying55 info4 rfl (by decide) (by omega) u7 x7_4 true [.bool true] (fun _ => True) (fun _ => False) rfl rfl ?aP (fun _ hk => hk.elim) ?aF ?aO ?aB ?aS ?aL ?_; (case aP => exact rfl); (case aB => exact HB.out); (case aF => exact (fun _ _ => trivial)); (case aO => exact HO_7.out); (case aS => exact (zam HB.out)); (case aL => have := LMc22.out; omega); intro v199 w29 ho hb hg hat; rw [← Ny198.out] at ho; have n0_ := zaa.mk (Kd.R_over' HO_6.out (Kd.R_typed HO_7.out) (by decide) hg); have n1_ := zaa.mk (Kd.R_over' HO_8.out (Kd.R_typed HO_7.out) (by decide) hg); have n2_ := zaa.mk (hb); have n3_ := zaa.mk (ho); clear HO_6; clear HO_8; clear HB; clear HO_7; have HO_6 := n0_; have HO_8 := n1_; have HB := n2_; have HO200 := n3_; clear n0_ n1_ n2_ n3_; clear ho hb hg hat; obtain ⟨Ao30, co30, eo30⟩ := Kd.R_slice HO_6.out; subst eo30; have p201 : 0 ≤ (x10_4 : Int) := of_decide_eq_true (by first | (with_reducible assumption) | assumption); have q201 : x10_4 < (x6_4.length : Int) := of_decide_eq_true (by first | (with_reducible assumption) | assumption); obtain ⟨ad201, e201, hx201_0⟩ := Kd.at_int (Kd.R_reads' HO_6.out).2.2 x10_4 p201 q201; cases e201; replace p201 := eq_true p201; replace q201 := eq_true q201) | ((with_reducible refine zaw (b := .append) (xs := #[.tmp 63, .tmp 68]) rfl ?_); at_builtin; refine Kd.R_append (Kd.int .i64) (w0 := w) w.heap.size rfl (.tmp 63) (.tmp 68) 29 3 (.int .i64 0) 8 rfl Tryd.underlying29 info3 rfl (by decide) (by omega) u8 x8_4 (rd x6_4 x10_4) [.int .i64 (rd x6_4 x10_4)] (fun k_ => some k_ ≠ (.slice (some ad201) x6_4.length co30 : Value).ownBlock) (fun _ => False) rfl rfl ?aP (fun _ hk => hk.elim) ?aF ?aO ?aB ?aS ?aL ?_; (case aP => exact rfl); (case aB => exact HB.out); (case aF => exact (fun k_ hk => Kd.fresh' (Kd.R_lt HO_6.out) k_ hk)); (case aO => exact HO_8.out); (case aS => exact (zam (by repeat (first | exact HB.out | apply zac | apply zab | apply zad)))); (case aL => have := LMc25.out; omega); intro v203 w31 ho hb hg hat; rw [← Ny202.out] at ho; have n0_ := zaa.mk (Kd.R_after (ok := (fun _ => True)) (by (with_reducible repeat (first | apply Kd.R_alloc | apply Kd.R_drewN | apply Kd.R_drew)); exact Kd.R_mono HO_6.out (fun _ hk => ⟨trivial, hk⟩)) hg hat); have n1_ := zaa.mk (Kd.R_over' HO200.out (Kd.R_typed HO_8.out) (by decide) hg); have n2_ := zaa.mk (hb); have n3_ := zaa.mk (ho); clear HO_6; clear HO200; clear HB; clear HO_8; have HO_6 := n0_; have HO200 := n1_; have HB := n2_; have HO204 := n3_; clear n0_ n1_ n2_ n3_; clear ho hb hg hat; have p205 : 0 ≤ (x10_4 : Int) := of_decide_eq_true (by first | (with_reducible assumption) | assumption); have q205 : x10_4 < (x6_4.length : Int) := of_decide_eq_true (by first | (with_reducible assumption) | assumption); obtain ⟨ad205, e205, hx205_0⟩ := Kd.at_int (Kd.R_reads' HO_6.out).2.2 x10_4 p205 q205; obtain rfl : ad201 = ad205 := (by injection e205); replace p205 := eq_true p205; replace q205 := eq_true q205) | ((with_reducible refine zbc (f := 35) rfl ?_); refine zb6 (some 76) rfl rfl Tryd.func35 (by kernel_rfl) rfl #[.int .i64 (rd x6_4 x10_4), .bool true] rfl (by (try simp only [List.map_toArray, List.map_cons, List.map_nil]); first | done | (simp only [hji21]; rfl) | rfl | (simp only [List.length_drop, List.length_take]; rfl)) ?_; (with_reducible refine (zbf.calls (rd x6_4 x10_4) true t206 t207 _ A26.out).mono ?_); rintro e w' ⟨rfl, ⟨nd, rfl⟩⟩; refine ⟨_, rfl, ?_⟩; (try (rw [drewN_self w31]; generalize hq_ : World.drewN w31 _ = w31; have n0_ : zaa (Kd.R Kd.bool 4 w31 w.heap.size (fun _ => True) v199 y198) := ⟨by rw [← hq_]; exact HO200.out⟩; have n1_ : zaa (Kd.R (Kd.int .i64) 3 w31 w.heap.size (fun k_ => some k_ ≠ (.slice (some ad201) x6_4.length co30 : Value).ownBlock) v203 y202) := ⟨by rw [← hq_]; exact HO204.out⟩; have n2_ : zaa (Kd.R (Kd.int .i64) 3 w31 w.heap.size (fun k_ => some k_ ≠ (v203 : Value).ownBlock) (.slice (some ad201) x6_4.length co30) x6_4) := ⟨by rw [← hq_]; exact (by (with_reducible repeat (first | apply Kd.R_alloc | apply Kd.R_drewN | apply Kd.R_drew)); exact Kd.R_mono HO_6.out (fun _ hk => hk.2))⟩; have n3_ : zaa (Below w.heap.size w w31) := ⟨by rw [← hq_]; exact (by repeat (first | exact HB.out | apply zac | apply zab | apply zad))⟩; clear HO200 HO204 HO_6 HB hq_; have HO200 := n0_; have HO204 := n1_; have HO_6 := n2_; have HB := n3_; clear n0_ n1_ n2_ n3_)); have p27 : 0 ≤ (x10_4 : Int) := of_decide_eq_true (by first | (with_reducible assumption) | assumption); have q27 : (x10_4 : Int) < ((x6_4.length : Int) : Int) := of_decide_eq_true (by first | (with_reducible assumption) | assumption); obtain ⟨go27, co27, eo27, gb27, gl27, cl27, HG27⟩ := Kd.R_form HO_6.out (by omega); (first | cases eo27 | (injection eo27 with ea_ en_ ec_; (first | subst ea_ | (injection ea_ with ea_; subst ea_)); subst ec_; clear en_)); have GB27 := zaa.mk gb27; have GG27 := zaa.mk HG27; clear gb27 gl27 HG27; (first | simp only [add_plain] at hx201_0 | skip); (first | simp only [add_plain] at hx205_0 | skip); obtain ⟨hx27_0, hf27_0⟩ := Kd.R_celln 0 HO_6.out (x10_4 : Int) p27 q27; replace p27 := eq_true p27; replace q27 := eq_true q27; have n_ := zaa.mk (Kd.R_mono (ok' := (fun k_ => some k_ ≠ (v203 : Value).ownBlock)) HO_6.out (fun k_ hk => by first | exact hk.2 | exact hk)); clear HO_6; have HO_6 := n_; clear n_; obtain ⟨hy32_, hz32_⟩ := Kd.R_celln 0 HO_6.out (x10_4 : Int) (of_decide_eq_true (by first | (with_reducible assumption) | assumption)) (of_decide_eq_true (by first | (with_reducible assumption) | assumption)); have HP32 := Kd.R_putg HO_6.out (x10_4 : Int) t206) | ((with_reducible refine zbx (t := 3) (p := 82) rfl ?_); refine store_event (t := 3) (p := 82) (v := ?vo_w33) (w1 := (w31.setCell ⟨go27, (x10_4 : Int).toNat, none⟩ (.int .i64 t206))) ?hg ?ho ?hn ?hr ?_; (case ho => rfl); (case hg => rfl); (case hn => rfl); (case hr => first | (go_simp; done) | (go_simp; rfl)); intro w33 hw; have hg : w31.grownBy w33 (some go27) := (by rw [hw]; exact HP32.2); have hp_ : Kd.R (Kd.int .i64) 3 w33 w.heap.size (fun k_ => some k_ ≠ (v203 : Value).ownBlock) (.slice (some ⟨go27, 0, none⟩) x6_4.length co30) y208 := (by rw [hw, Ny208.out]; exact HP32.1); clear HP32; have n0_ := zaa.mk (hp_); have n1_ := zaa.mk (Kd.R_over' (v := (.slice (some ⟨go27, 0, none⟩) x6_4.length co30)) HO200.out (Kd.R_typed HO_6.out) (by decide) hg); have n2_ := zaa.mk (Kd.R_after (v := (.slice (some ⟨go27, 0, none⟩) x6_4.length co30)) (v1 := (.slice (some ⟨go27, 0, none⟩) x6_4.length co30)) (ok := (fun _ => True)) (by (with_reducible repeat (first | apply Kd.R_alloc | apply Kd.R_drewN | apply Kd.R_drew)); exact Kd.R_mono HO204.out (fun _ hk => ⟨trivial, hk⟩)) hg (.inl rfl)); have n3_ := zaa.mk ((by rw [hw]; exact zat (HB.out) GB27.out : Below w.heap.size w w33)); clear HO_6; clear HO200; clear HO204; clear HB; have HO_6 := n0_; have HO200 := n1_; have HO204 := n2_; have HB := n3_; clear n0_ n1_ n2_ n3_; clear hg hw hp_))
                     go_roundg k4
                     case measure => have := HJ2.out; have := HK2.out; have := HJ8.out; have := HK4.out; omega
                     case rel => exact ⟨(y208), (y198), (y202), (wrap64 ((wrap64 (x10_4 * 2)) + 1)), (wrap64 (x11_4 - 1)), rfl, rfl, H', ⟨by have := HJ2.out; have := HK2.out; have := HJ8.out; have := HK4.out; omega⟩, ⟨by (with_reducible repeat (first | apply Kd.R_alloc | apply Kd.R_drewN | apply Kd.R_drew)); exact HO_6.out⟩, ⟨by (with_reducible repeat (first | apply Kd.R_alloc | apply Kd.R_drewN | apply Kd.R_drew)); exact HO200.out⟩, ⟨by (with_reducible repeat (first | apply Kd.R_alloc | apply Kd.R_drewN | apply Kd.R_drew)); exact Kd.R_mono HO204.out (fun _ hk => hk.2)⟩, ⟨by repeat (first | exact HB.out | apply zac | apply zab | apply zad)⟩⟩
                    ·rw [if_neg c28] at H
                     have c28b0 : ((Go.bits .and .i64 (ji21) 1) == 1) = false := beq_eq_false_iff_ne.mpr c28
                     (try (have h_ := A6.out; rw [c28b0] at h_; clear A6; have A6 := zaa.mk h_))
                     (try (have h_ := Ny198.out; rw [c28b0] at h_; clear Ny198; have Ny198 := zaa.mk h_))
                     (try (have h_ := Ny202.out; rw [c28b0] at h_; clear Ny202; have Ny202 := zaa.mk h_))
                     (try (have h_ := A26.out; rw [c28b0] at h_; clear A26; have A26 := zaa.mk h_))
                     (try (have h_ := Ny208.out; rw [c28b0] at h_; clear Ny208; have Ny208 := zaa.mk h_))
                     have c28b1 : ((Go.bits .and .i64 (ji21) 1) != 1) = true := bne_iff_ne.mpr c28
                     have H' := zaa.mk H
                     clear H
                     have p197 : 0 ≤ (x9_2 : Int) := of_decide_eq_true (by first | (with_reducible assumption) | assumption)
                     have q197 : x9_2 < (l0.length : Int) := of_decide_eq_true (by first | (with_reducible assumption) | assumption)
                     obtain ⟨ad197, e197, hx197_0⟩ := Kd.at_int HR0.out x9_2 p197 q197
                     cases e197
                     replace hx197_0 := (HB.out.cell (World.block_lt_of_cell? w _ hx197_0)).trans hx197_0
                     replace p197 := eq_true p197
                     replace q197 := eq_true q197
                     go_wp2_with (first | ((with_reducible refine zaw (b := .append) (xs := #[.tmp 59, .tmp 61]) rfl ?_); at_builtin; refine Kd.R_append Kd.bool (w0 := w) w.heap.size rfl (.tmp 59) (.tmp 61) 55 4 (.bool false) 1 rfl Tryd.underlying55 info4 rfl (by decide) (by omega) u7 x7_4 false [.bool false] (fun _ => True) (fun _ => False) rfl rfl ?aP (fun _ hk => hk.elim) ?aF ?aO ?aB ?aS ?aL ?_; (case aP => exact rfl); (case aB => exact (by repeat (first | exact HB.out | apply zac | apply zab | apply zad))); (case aF => exact (fun _ _ => trivial)); (case aO => exact HO_7.out); (case aS => exact (zam (by repeat (first | exact HB.out | apply zac | apply zab | apply zad)))); (case aL => have := LMc22.out; omega); intro v199 w34 ho hb hg hat; rw [← Ny198.out] at ho; have n0_ := zaa.mk (Kd.R_over' HO_6.out (Kd.R_typed HO_7.out) (by decide) hg); have n1_ := zaa.mk (Kd.R_over' HO_8.out (Kd.R_typed HO_7.out) (by decide) hg); have n2_ := zaa.mk (hb); have n3_ := zaa.mk (ho); clear HO_6; clear HO_8; clear HB; clear HO_7; have HO_6 := n0_; have HO_8 := n1_; have HB := n2_; have HO200 := n3_; clear n0_ n1_ n2_ n3_; clear ho hb hg hat; obtain ⟨Ao35, co35, eo35⟩ := Kd.R_slice HO_6.out; subst eo35; have p201 : 0 ≤ (x10_4 : Int) := of_decide_eq_true (by first | (with_reducible assumption) | assumption); have q201 : x10_4 < (x6_4.length : Int) := of_decide_eq_true (by first | (with_reducible assumption) | assumption); obtain ⟨ad201, e201, hx201_0⟩ := Kd.at_int (Kd.R_reads' HO_6.out).2.2 x10_4 p201 q201; cases e201; replace p201 := eq_true p201; replace q201 := eq_true q201) | ((with_reducible refine zaw (b := .append) (xs := #[.tmp 63, .tmp 68]) rfl ?_); at_builtin; refine Kd.R_append (Kd.int .i64) (w0 := w) w.heap.size rfl (.tmp 63) (.tmp 68) 29 3 (.int .i64 0) 8 rfl Tryd.underlying29 info3 rfl (by decide) (by omega) u8 x8_4 (rd x6_4 x10_4) [.int .i64 (rd x6_4 x10_4)] (fun k_ => some k_ ≠ (.slice (some ad201) x6_4.length co35 : Value).ownBlock) (fun _ => False) rfl rfl ?aP (fun _ hk => hk.elim) ?aF ?aO ?aB ?aS ?aL ?_; (case aP => exact rfl); (case aB => exact (by repeat (first | exact HB.out | apply zac | apply zab | apply zad))); (case aF => exact (fun k_ hk => Kd.fresh' (Kd.R_lt HO_6.out) k_ hk)); (case aO => exact HO_8.out); (case aS => exact (zam (by repeat (first | exact HB.out | apply zac | apply zab | apply zad)))); (case aL => have := LMc25.out; omega); intro v203 w36 ho hb hg hat; rw [← Ny202.out] at ho; have n0_ := zaa.mk (Kd.R_after (ok := (fun _ => True)) (by (with_reducible repeat (first | apply Kd.R_alloc | apply Kd.R_drewN | apply Kd.R_drew)); exact Kd.R_mono HO_6.out (fun _ hk => ⟨trivial, hk⟩)) hg hat); have n1_ := zaa.mk (Kd.R_over' HO200.out (Kd.R_typed HO_8.out) (by decide) hg); have n2_ := zaa.mk (hb); have n3_ := zaa.mk (ho); clear HO_6; clear HO200; clear HB; clear HO_8; have HO_6 := n0_; have HO200 := n1_; have HB := n2_; have HO204 := n3_; clear n0_ n1_ n2_ n3_; clear ho hb hg hat; have p205 : 0 ≤ (x10_4 : Int) := of_decide_eq_true (by first | (with_reducible assumption) | assumption); have q205 : x10_4 < (x6_4.length : Int) := of_decide_eq_true (by first | (with_reducible assumption) | assumption); obtain ⟨ad205, e205, hx205_0⟩ := Kd.at_int (Kd.R_reads' HO_6.out).2.2 x10_4 p205 q205; obtain rfl : ad201 = ad205 := (by injection e205); replace p205 := eq_true p205; replace q205 := eq_true q205) | ((with_reducible refine zbc (f := 35) rfl ?_); refine zb6 (some 76) rfl rfl Tryd.func35 (by kernel_rfl) rfl #[.int .i64 (rd x6_4 x10_4), .bool false] rfl (by (try simp only [List.map_toArray, List.map_cons, List.map_nil]); first | done | (simp only [hji21]; rfl) | rfl | (simp only [List.length_drop, List.length_take]; rfl)) ?_; (with_reducible refine (zbf.calls (rd x6_4 x10_4) false t206 t207 _ A26.out).mono ?_); rintro e w' ⟨rfl, ⟨nd, rfl⟩⟩; refine ⟨_, rfl, ?_⟩; (try (rw [drewN_self w36]; generalize hq_ : World.drewN w36 _ = w36; have n0_ : zaa (Kd.R Kd.bool 4 w36 w.heap.size (fun _ => True) v199 y198) := ⟨by rw [← hq_]; exact HO200.out⟩; have n1_ : zaa (Kd.R (Kd.int .i64) 3 w36 w.heap.size (fun k_ => some k_ ≠ (.slice (some ad201) x6_4.length co35 : Value).ownBlock) v203 y202) := ⟨by rw [← hq_]; exact HO204.out⟩; have n2_ : zaa (Kd.R (Kd.int .i64) 3 w36 w.heap.size (fun k_ => some k_ ≠ (v203 : Value).ownBlock) (.slice (some ad201) x6_4.length co35) x6_4) := ⟨by rw [← hq_]; exact (by (with_reducible repeat (first | apply Kd.R_alloc | apply Kd.R_drewN | apply Kd.R_drew)); exact Kd.R_mono HO_6.out (fun _ hk => hk.2))⟩; have n3_ : zaa (Below w.heap.size w w36) := ⟨by rw [← hq_]; exact (by repeat (first | exact HB.out | apply zac | apply zab | apply zad))⟩; clear HO200 HO204 HO_6 HB hq_; have HO200 := n0_; have HO204 := n1_; have HO_6 := n2_; have HB := n3_; clear n0_ n1_ n2_ n3_)); have p27 : 0 ≤ (x10_4 : Int) := of_decide_eq_true (by first | (with_reducible assumption) | assumption); have q27 : (x10_4 : Int) < ((x6_4.length : Int) : Int) := of_decide_eq_true (by first | (with_reducible assumption) | assumption); obtain ⟨go27, co27, eo27, gb27, gl27, cl27, HG27⟩ := Kd.R_form HO_6.out (by omega); (first | cases eo27 | (injection eo27 with ea_ en_ ec_; (first | subst ea_ | (injection ea_ with ea_; subst ea_)); subst ec_; clear en_)); have GB27 := zaa.mk gb27; have GG27 := zaa.mk HG27; clear gb27 gl27 HG27; (first | simp only [add_plain] at hx201_0 | skip); (first | simp only [add_plain] at hx205_0 | skip); obtain ⟨hx27_0, hf27_0⟩ := Kd.R_celln 0 HO_6.out (x10_4 : Int) p27 q27; replace p27 := eq_true p27; replace q27 := eq_true q27; have n_ := zaa.mk (Kd.R_mono (ok' := (fun k_ => some k_ ≠ (v203 : Value).ownBlock)) HO_6.out (fun k_ hk => by first | exact hk.2 | exact hk)); clear HO_6; have HO_6 := n_; clear n_; obtain ⟨hy37_, hz37_⟩ := Kd.R_celln 0 HO_6.out (x10_4 : Int) (of_decide_eq_true (by first | (with_reducible assumption) | assumption)) (of_decide_eq_true (by first | (with_reducible assumption) | assumption)); have HP37 := Kd.R_putg HO_6.out (x10_4 : Int) t206) | ((with_reducible refine zbx (t := 3) (p := 82) rfl ?_); refine store_event (t := 3) (p := 82) (v := ?vo_w38) (w1 := (w36.setCell ⟨go27, (x10_4 : Int).toNat, none⟩ (.int .i64 t206))) ?hg ?ho ?hn ?hr ?_; (case ho => rfl); (case hg => rfl); (case hn => rfl); (case hr => first | (go_simp; done) | (go_simp; rfl)); intro w38 hw; have hg : w36.grownBy w38 (some go27) := (by rw [hw]; exact HP37.2); have hp_ : Kd.R (Kd.int .i64) 3 w38 w.heap.size (fun k_ => some k_ ≠ (v203 : Value).ownBlock) (.slice (some ⟨go27, 0, none⟩) x6_4.length co35) y208 := (by rw [hw, Ny208.out]; exact HP37.1); clear HP37; have n0_ := zaa.mk (hp_); have n1_ := zaa.mk (Kd.R_over' (v := (.slice (some ⟨go27, 0, none⟩) x6_4.length co35)) HO200.out (Kd.R_typed HO_6.out) (by decide) hg); have n2_ := zaa.mk (Kd.R_after (v := (.slice (some ⟨go27, 0, none⟩) x6_4.length co35)) (v1 := (.slice (some ⟨go27, 0, none⟩) x6_4.length co35)) (ok := (fun _ => True)) (by (with_reducible repeat (first | apply Kd.R_alloc | apply Kd.R_drewN | apply Kd.R_drew)); exact Kd.R_mono HO204.out (fun _ hk => ⟨trivial, hk⟩)) hg (.inl rfl)); have n3_ := zaa.mk ((by rw [hw]; exact zat (HB.out) GB27.out : Below w.heap.size w w38)); clear HO_6; clear HO200; clear HO204; clear HB; have HO_6 := n0_; have HO200 := n1_; have HO204 := n2_; have HB := n3_; clear n0_ n1_ n2_ n3_; clear hg hw hp_))
                     go_roundg k4
                     case measure => have := HJ2.out; have := HK2.out; have := HJ8.out; have := HK4.out; omega
                     case rel => exact ⟨(y208), (y198), (y202), (wrap64 (x10_4 * 2)), (wrap64 (x11_4 - 1)), rfl, rfl, H', ⟨by have := HJ2.out; have := HK2.out; have := HJ8.out; have := HK4.out; omega⟩, ⟨by (with_reducible repeat (first | apply Kd.R_alloc | apply Kd.R_drewN | apply Kd.R_drew)); exact HO_6.out⟩, ⟨by (with_reducible repeat (first | apply Kd.R_alloc | apply Kd.R_drewN | apply Kd.R_drew)); exact HO200.out⟩, ⟨by (with_reducible repeat (first | apply Kd.R_alloc | apply Kd.R_drewN | apply Kd.R_drew)); exact Kd.R_mono HO204.out (fun _ hk => hk.2)⟩, ⟨by repeat (first | exact HB.out | apply zac | apply zab | apply zad)⟩⟩
                   ·rw [if_neg c25] at H
                    exact absurd H (by simp)
                  ·rw [if_neg c24] at H
                   exact absurd H (by simp)
                 ·rw [if_neg c23] at H
                  exact absurd H (by simp)
                ·rw [if_neg c22] at H
                 exact absurd H (by simp)
               ·rw [if_neg c20] at H
                exact absurd H (by simp)
              ·rw [if_neg c18] at H
               exact absurd H (by simp)
             ·rw [if_neg c17] at H
              exact absurd H (by simp)
            ·rw [if_neg c16] at H
             have c16b0 : decide (0 ≤ x11_4) = false := decide_eq_false c16
             clear c16
             have H' := zaa.mk H
             clear H
             go_wp2
             go_roundg k4
             case measure => have := HJ2.out; have := HK2.out; have := HJ8.out; have := HK4.out; omega
             case rel => exact ⟨(x6_4), (x7_4), (x8_4), (wrap64 (x9_2 + 1)), rfl, H', ⟨by have := HJ2.out; have := HK2.out; have := HJ8.out; have := HK4.out; omega⟩, ⟨by (with_reducible repeat (first | apply Kd.R_alloc | apply Kd.R_drewN | apply Kd.R_drew)); exact HO_6.out⟩, ⟨by (with_reducible repeat (first | apply Kd.R_alloc | apply Kd.R_drewN | apply Kd.R_drew)); exact HO_7.out⟩, ⟨by (with_reducible repeat (first | apply Kd.R_alloc | apply Kd.R_drewN | apply Kd.R_drew)); exact HO_8.out⟩, ⟨by repeat (first | exact HB.out | apply zac | apply zab | apply zad)⟩⟩
      ·rw [if_neg c8] at H
       have c8b0 : decide (x9_2 < (l0.length : Int)) = false := decide_eq_false c8
       clear c8
       replace H := Option.bind_eq_some_iff.mp H
       obtain ⟨⟨t193, t194⟩, A390, H⟩ := H
       have A39 := zaa.mk A390
       clear A390
       simp only [Option.some.injEq, Prod.mk.injEq] at H
       obtain ⟨rfl, rfl⟩ := H
       obtain ⟨Ao40, co40, eo40⟩ := Kd.R_slice HO_7.out
       subst eo40
       obtain ⟨Ao41, co41, eo41⟩ := Kd.R_slice HO_8.out
       subst eo41
       go_wp2_with (first | ((with_reducible refine zbc (f := 36) rfl ?_); refine zb6 (some 90) rfl rfl Tryd.func36 (by kernel_rfl) rfl #[.slice Ao40 x7_2.length co40, .slice Ao41 x8_2.length co41] rfl (by (try simp only [List.map_toArray, List.map_cons, List.map_nil]); first | done | rfl | (simp only [List.length_drop, List.length_take]; rfl)) ?_; (with_reducible refine (zan.calls k2 _ _ x7_2 _ _ x8_2 t193 t194 _ ?side1 ?side2 ?side3 ?side4 A39.out).mono ?_); (case side1 => repeat (first | exact (Kd.R_reads' HO_7.out).2.2 | (with_reducible refine Kd.C_alloc ?_ _) | (with_reducible refine Kd.C_drewN ?_ _) | (with_reducible refine Kd.C_drew ?_))); (case side2 => exact (Kd.R_reads' HO_7.out).2.1); (case side3 => repeat (first | exact (Kd.R_reads' HO_8.out).2.2 | (with_reducible refine Kd.C_alloc ?_ _) | (with_reducible refine Kd.C_drewN ?_ _) | (with_reducible refine Kd.C_drew ?_))); (case side4 => exact (Kd.R_reads' HO_8.out).2.1); rintro e w42 ⟨rfl, hb⟩; refine ⟨_, rfl, ?_⟩; have n0_ := zaa.mk (Kd.R_below HO_6.out hb); have n1_ := zaa.mk (Kd.R_below HO_7.out hb); have n2_ := zaa.mk (Kd.R_below HO_8.out hb); have n3_ := zaa.mk (zaf (by repeat (first | exact HB.out | apply zac | apply zab | apply zad)) hb); clear HO_6; clear HO_7; clear HO_8; clear HB; have HO_6 := n0_; have HO_7 := n1_; have HO_8 := n2_; have HB := n3_; clear n0_ n1_ n2_ n3_; (try clear hb); (try clear hb2); (try clear hk); (try clear hi)))
       go_ret2
       exact ⟨by first | rfl | (simp [errW_none, errW_some] <;> rfl) | (simp [*, errW_none, errW_some] <;> rfl), by repeat (first | exact HB.out | apply zac | apply zab | apply zad)⟩
def zb4.f (k : Nat) (a0 : ByteArray) : Option (ByteArray × Int) := if (a0.size : Int) > 65536 then (some ((⟨#[]⟩ : ByteArray), 5)) else ((zal.f k a0).bind fun bt209 => ((zaq.f k bt209.1).bind fun t211 => ((zak.f k t211).bind fun bt214 => ((zaj.f k (a0.size : Int)).bind fun bt218 => ((zaj.f k bt209.2).bind fun bt220 => ((zaj.f k (bt214.1.length : Int)).bind fun bt222 => ((zae.f k bt214.1 9).bind fun bt224 => (if bt218.1.size + bt220.1.size ≤ 9223372036854775807 then (if (bt218.1 ++ bt220.1).size + bt222.1.size ≤ 9223372036854775807 then (if ((bt218.1 ++ bt220.1) ++ bt222.1).size + bt224.1.size ≤ 9223372036854775807 then (some (((bt218.1 ++ bt220.1) ++ bt222.1) ++ bt224.1, 0)) else (none)) else (none)) else (none)))))))))
set_option maxHeartbeats 8000000 in
set_option maxRecDepth 100000 in
theorem zb4.calls (k : Nat) (a0 : ByteArray) (r1 : ByteArray) (r2 : Int) (w : World) (h : zb4.f k a0 = some (r1, r2)) :
  Calls Tryd.prog 7 #[.string a0] w fun e w' => e = .returned (.tuple #[.string r1, .int .i64 r2]) ∧ Below w.heap.size w w' := by
 have HB := zaa.mk (Below.refl w.heap.size w)
 have H : (if (a0.size : Int) > 65536 then (some ((⟨#[]⟩ : ByteArray), 5)) else ((zal.f k a0).bind fun bt209 => ((zaq.f k bt209.1).bind fun t211 => ((zak.f k t211).bind fun bt214 => ((zaj.f k (a0.size : Int)).bind fun bt218 => ((zaj.f k bt209.2).bind fun bt220 => ((zaj.f k (bt214.1.length : Int)).bind fun bt222 => ((zae.f k bt214.1 9).bind fun bt224 => (if bt218.1.size + bt220.1.size ≤ 9223372036854775807 then (if (bt218.1 ++ bt220.1).size + bt222.1.size ≤ 9223372036854775807 then (if ((bt218.1 ++ bt220.1) ++ bt222.1).size + bt224.1.size ≤ 9223372036854775807 then (some (((bt218.1 ++ bt220.1) ++ bt222.1) ++ bt224.1, 0)) else (none)) else (none)) else (none)))))))))) = some (r1, r2) := h
 clear h
 by_cases c2 : (a0.size : Int) > 65536
 ·rw [if_pos c2] at H
  have c2b0 : decide (65536 < (a0.size : Int)) = true := decide_eq_true c2
  have c2b1 : decide (65536 < a0.size) = true := decide_eq_true (by omega)
  clear c2
  simp only [Option.some.injEq, Prod.mk.injEq] at H
  obtain ⟨rfl, rfl⟩ := H
  go_enter Tryd.func7, Tryd.ntmps7
  go_wp2
  go_ret2
  exact ⟨by first | rfl | (simp [errW_none, errW_some] <;> rfl) | (simp [*, errW_none, errW_some] <;> rfl), by repeat (first | exact HB.out | apply zac | apply zab | apply zad)⟩
 ·rw [if_neg c2] at H
  have c2b0 : decide (65536 < (a0.size : Int)) = false := decide_eq_false c2
  have c2b1 : decide (65536 < a0.size) = false := decide_eq_false (by omega)
  clear c2
  replace H := Option.bind_eq_some_iff.mp H
  obtain ⟨⟨t209, t210⟩, A30, H⟩ := H
  have A3 := zaa.mk A30
  clear A30
  replace H := Option.bind_eq_some_iff.mp H
  obtain ⟨t211, A40, H⟩ := H
  have A4 := zaa.mk A40
  clear A40
  replace H := Option.bind_eq_some_iff.mp H
  obtain ⟨⟨t214, t215⟩, A50, H⟩ := H
  have A5 := zaa.mk A50
  clear A50
  replace H := Option.bind_eq_some_iff.mp H
  obtain ⟨⟨t218, t219⟩, A60, H⟩ := H
  have A6 := zaa.mk A60
  clear A60
  replace H := Option.bind_eq_some_iff.mp H
  obtain ⟨⟨t220, t221⟩, A70, H⟩ := H
  have A7 := zaa.mk A70
  clear A70
  replace H := Option.bind_eq_some_iff.mp H
  obtain ⟨⟨t222, t223⟩, A80, H⟩ := H
  have A8 := zaa.mk A80
  clear A80
  replace H := Option.bind_eq_some_iff.mp H
  obtain ⟨⟨t224, t225⟩, A90, H⟩ := H
  have A9 := zaa.mk A90
  clear A90
  by_cases c10 : t218.size + t220.size ≤ 9223372036854775807
  ·rw [if_pos c10] at H
   have c10b0 := eq_true c10
   have c10b1 : decide (t218.size + t220.size ≤ 9223372036854775807) = true := decide_eq_true c10
   by_cases c11 : (t218 ++ t220).size + t222.size ≤ 9223372036854775807
   ·rw [if_pos c11] at H
    have c11b0 := eq_true c11
    have c11b1 : decide ((t218 ++ t220).size + t222.size ≤ 9223372036854775807) = true := decide_eq_true c11
    by_cases c12 : ((t218 ++ t220) ++ t222).size + t224.size ≤ 9223372036854775807
    ·rw [if_pos c12] at H
     have c12b0 := eq_true c12
     have c12b1 : decide (((t218 ++ t220) ++ t222).size + t224.size ≤ 9223372036854775807) = true := decide_eq_true c12
     simp only [Option.some.injEq, Prod.mk.injEq] at H
     obtain ⟨rfl, rfl⟩ := H
     go_enter Tryd.func7, Tryd.ntmps7
     go_wp2_with (first | ((with_reducible refine zbc (f := 14) rfl ?_); refine zb6 (some 21) rfl rfl Tryd.func14 (by kernel_rfl) rfl #[.string a0] rfl (by (try simp only [List.map_toArray, List.map_cons, List.map_nil]); first | done | rfl | (simp only [List.length_drop, List.length_take]; rfl)) ?_; (with_reducible refine (zal.calls k a0 t209 t210 _ A3.out).mono ?_); rintro e w13 ⟨rfl, hb⟩; refine ⟨_, rfl, ?_⟩; have n0_ := zaa.mk (zaf (by repeat (first | exact HB.out | apply zac | apply zab | apply zad)) hb); clear HB; have HB := n0_; clear n0_; (try clear hb); (try clear hb2); (try clear hk); (try clear hi)) | ((with_reducible refine zbc (f := 16) rfl ?_); refine zb6 (some 26) rfl rfl Tryd.func16 (by kernel_rfl) rfl #[.string t209] rfl (by (try simp only [List.map_toArray, List.map_cons, List.map_nil]); first | done | rfl | (simp only [List.length_drop, List.length_take]; rfl)) ?_; (with_reducible refine (zaq.calls k t209 t211 _ A4.out).mono ?_); rintro e w14 ⟨v212, rfl, ho0, hb⟩; refine ⟨_, rfl, ?_⟩; have n0_ := zaa.mk (Kd.R_lower ho0 (zam (by repeat (first | exact HB.out | apply zac | apply zab | apply zad)))); have n1_ := zaa.mk (zaf (by repeat (first | exact HB.out | apply zac | apply zab | apply zad)) hb); clear HB; have HO213 := n0_; have HB := n1_; clear n0_ n1_; (try clear hb); (try clear hb2); (try clear hk); (try clear hi); (try clear ho0); obtain ⟨Ao15, co15, eo15⟩ := Kd.R_slice HO213.out; subst eo15) | ((with_reducible refine zbc (f := 15) rfl ?_); refine zb6 (some 27) rfl rfl Tryd.func15 (by kernel_rfl) rfl #[.slice Ao15 t211.length co15] rfl (by (try simp only [List.map_toArray, List.map_cons, List.map_nil]); first | done | rfl | (simp only [List.length_drop, List.length_take]; rfl)) ?_; (with_reducible refine (zak.calls k _ _ t211 t214 t215 _ ?side1 ?side2 A5.out).mono ?_); (case side1 => repeat (first | exact (Kd.R_reads' HO213.out).2.2 | (with_reducible refine Kd.C_alloc ?_ _) | (with_reducible refine Kd.C_drewN ?_ _) | (with_reducible refine Kd.C_drew ?_))); (case side2 => exact (Kd.R_reads' HO213.out).2.1); rintro e w16 ⟨v216, rfl, ho0, hb⟩; refine ⟨_, rfl, ?_⟩; have n0_ := zaa.mk (Kd.R_elder' HO213.out (Kd.R_base ho0) hb); have n1_ := zaa.mk (Kd.R_lower (Kd.R_new' ho0 (Kd.R_lt HO213.out)) (zam (by repeat (first | exact HB.out | apply zac | apply zab | apply zad)))); have n2_ := zaa.mk (zaf (by repeat (first | exact HB.out | apply zac | apply zab | apply zad)) hb); clear HO213; clear HB; have HO213 := n0_; have HO217 := n1_; have HB := n2_; clear n0_ n1_ n2_; (try clear hb); (try clear hb2); (try clear hk); (try clear hi); (try clear ho0)) | ((with_reducible refine zbc (f := 17) rfl ?_); refine zb6 (some 33) rfl rfl Tryd.func17 (by kernel_rfl) rfl #[.int .i64 (a0.size : Int)] rfl (by (try simp only [List.map_toArray, List.map_cons, List.map_nil]); first | done | rfl | (simp only [List.length_drop, List.length_take]; rfl)) ?_; (with_reducible refine (zaj.calls k (a0.size : Int) t218 t219 _ A6.out).mono ?_); rintro e w17 ⟨rfl, hb⟩; refine ⟨_, rfl, ?_⟩; have n0_ := zaa.mk (Kd.R_below HO213.out hb); have n1_ := zaa.mk (Kd.R_below HO217.out hb); have n2_ := zaa.mk (zaf (by repeat (first | exact HB.out | apply zac | apply zab | apply zad)) hb); clear HO213; clear HO217; clear HB; have HO213 := n0_; have HO217 := n1_; have HB := n2_; clear n0_ n1_ n2_; (try clear hb); (try clear hb2); (try clear hk); (try clear hi)) | ((with_reducible refine zbc (f := 17) rfl ?_); refine zb6 (some 38) rfl rfl Tryd.func17 (by kernel_rfl) rfl #[.int .i64 t210] rfl (by (try simp only [List.map_toArray, List.map_cons, List.map_nil]); first | done | rfl | (simp only [List.length_drop, List.length_take]; rfl)) ?_; (with_reducible refine (zaj.calls k t210 t220 t221 _ A7.out).mono ?_); rintro e w18 ⟨rfl, hb⟩; refine ⟨_, rfl, ?_⟩; have n0_ := zaa.mk (Kd.R_below HO213.out hb); have n1_ := zaa.mk (Kd.R_below HO217.out hb); have n2_ := zaa.mk (zaf (by repeat (first | exact HB.out | apply zac | apply zab | apply zad)) hb); clear HO213; clear HO217; clear HB; have HO213 := n0_; have HO217 := n1_; have HB := n2_; clear n0_ n1_ n2_; (try clear hb); (try clear hb2); (try clear hk); (try clear hi); obtain ⟨Ao19, co19, eo19⟩ := Kd.R_slice HO217.out; subst eo19) | ((with_reducible refine zbc (f := 17) rfl ?_); refine zb6 (some 44) rfl rfl Tryd.func17 (by kernel_rfl) rfl #[.int .i64 (t214.length : Int)] rfl (by (try simp only [List.map_toArray, List.map_cons, List.map_nil]); first | done | rfl | (simp only [List.length_drop, List.length_take]; rfl)) ?_; (with_reducible refine (zaj.calls k (t214.length : Int) t222 t223 _ A8.out).mono ?_); rintro e w20 ⟨rfl, hb⟩; refine ⟨_, rfl, ?_⟩; have n0_ := zaa.mk (Kd.R_below HO213.out hb); have n1_ := zaa.mk (Kd.R_below HO217.out hb); have n2_ := zaa.mk (zaf (by repeat (first | exact HB.out | apply zac | apply zab | apply zad)) hb); clear HO213; clear HO217; clear HB; have HO213 := n0_; have HO217 := n1_; have HB := n2_; clear n0_ n1_ n2_; (try clear hb); (try clear hb2); (try clear hk); (try clear hi)) | ((with_reducible refine zbc (f := 18) rfl ?_); refine zb6 (some 49) rfl rfl Tryd.func18 (by kernel_rfl) rfl #[.slice Ao19 t214.length co19, .int .i64 9] rfl (by (try simp only [List.map_toArray, List.map_cons, List.map_nil]); first | done | rfl | (simp only [List.length_drop, List.length_take]; rfl)) ?_; (with_reducible refine (zae.calls k _ _ t214 9 t224 t225 _ ?side1 ?side2 A9.out).mono ?_); (case side1 => repeat (first | exact (Kd.R_reads' HO217.out).2.2 | (with_reducible refine Kd.C_alloc ?_ _) | (with_reducible refine Kd.C_drewN ?_ _) | (with_reducible refine Kd.C_drew ?_))); (case side2 => exact (Kd.R_reads' HO217.out).2.1); rintro e w21 ⟨rfl, hb⟩; refine ⟨_, rfl, ?_⟩; have n0_ := zaa.mk (Kd.R_below HO213.out hb); have n1_ := zaa.mk (Kd.R_below HO217.out hb); have n2_ := zaa.mk (zaf (by repeat (first | exact HB.out | apply zac | apply zab | apply zad)) hb); clear HO213; clear HO217; clear HB; have HO213 := n0_; have HO217 := n1_; have HB := n2_; clear n0_ n1_ n2_; (try clear hb); (try clear hb2); (try clear hk); (try clear hi)))
     go_ret2
     exact ⟨by first | rfl | (simp [errW_none, errW_some] <;> rfl) | (simp [*, errW_none, errW_some] <;> rfl), by repeat (first | exact HB.out | apply zac | apply zab | apply zad)⟩
    ·rw [if_neg c12] at H
     exact absurd H (by simp)
   ·rw [if_neg c11] at H
    exact absurd H (by simp)
  ·rw [if_neg c10] at H
   exact absurd H (by simp)
end Go.Proofs.YtdifgiceallpiaaDoor.Pr
end
section
namespace Go.Proofs.YtdifgiceallpiaaDoor.Pure
open Go Go.RowKit YtdifgiceallpiaaDoorW.PrintWords YtdifgiceallpiaaDoorW.PrintMore YtdifgiceallpiaaDoor.P YtdifgiceallpiaaDoor.Pr YtdifgiceallpiaaDoor.Com YtdifgiceallpiaaDoor.Rn YtdifgiceallpiaaDoor.Hd
theorem pow9 {n : Nat} (hn : n ≤ 9) : 1 ≤ 2 ^ n ∧ 2 ^ n ≤ 512 := by
 have : ∀ m : Nat, m ≤ 9 → 1 ≤ 2 ^ m ∧ 2 ^ m ≤ 512 := by decide
 exact this n hn
theorem shl9 {n : Nat} (hn : n ≤ 9) : shl .i64 1 (IntKind.u64.wrap (n : Int)) = ((2 ^ n : Nat) : Int) := by
 rw [wu64 (by omega) (by omega), shl64 (by omega) (by omega), Int.toNat_natCast]; simp
theorem fresh_l0 (M : Nat) (hM : M ≤ 512) (d : Nat) : ∀ i : Nat, i + d = M → Ev (fun k => zav.l0 k (List.replicate i 1024 ++ List.replicate d 0) (i : Int)) (List.replicate M 1024) := by
 induction d with
 | zero =>
  intro i hi
  obtain rfl : i = M := by omega
  refine Ev.step (f := fun _ => some (List.replicate i (1024 : Int))) (fun k => ?_) (Ev.now _)
  simp only [zav.l0]
  rw [if_neg (by simp)]
  simp
 | succ d ih =>
  intro i hi
  refine Ev.step (fun k => ?_) (ih (i + 1) (by omega))
  simp only [zav.l0]
  rw [if_pos (by simp; omega), if_pos (by omega), Int.toNat_natCast, w64 (x := (i : Int) + 1) (by omega) (by omega)]
  have e : (List.replicate i (1024 : Int) ++ List.replicate (d + 1) 0).set i 1024 = List.replicate (i + 1) 1024 ++ List.replicate d 0 := by
   rw [List.replicate_succ, List.set_append_right _ _ (by simp), List.length_replicate, Nat.sub_self, List.replicate_succ']
   simp [List.append_assoc]
  rw [e]
  rfl
theorem fresh_ev (n : Nat) (hn : n ≤ 9) : Ev (fun k => zav.f k (n : Int)) (List.replicate (2 ^ n) 1024) := by
 have hp := pow9 hn
 unfold zav.f
 refine Ev.ifp (by rw [wu64 (by omega) (by omega)]; omega) ?_
 rw [shl9 hn, Int.toNat_natCast]
 refine Ev.ifp (by omega) (Ev.ifp (by omega) ?_)
 exact fresh_l0 (2 ^ n) hp.2 (2 ^ n) 0 (by omega)
theorem shr_i64 (x k : Nat) (hk : k ≤ 62) : shr .i64 (x : Int) (IntKind.u64.wrap (k : Int)) = (x : Int) / 2 ^ k := by
 rw [wu64 (by omega) (by omega)]
 unfold shr
 rw [Int.toNat_natCast, show min k IntKind.i64.bits = k by simp [IntKind.bits]; omega]
theorem enc_l1 (l : List Int) (n : Nat) (hn : n ≤ 9) (i x : Nat) (hi : l[i]? = some (x : Int)) (hx : x < 9223372036854775808) (hil : i < l.length) (R : ByteArray × Int) :
  ∀ k : Nat, k ≤ n → ∀ (A : Nat) (bl : List Bool) (pl ch : List Int), A < 2 * 2 ^ (n - k) → ch.length = 2 ^ n → FineC ch → bl.length + k ≤ 1000000 → pl.length + k ≤ 1000000 →
   Ev (fun q => zae.l0 q l (n : Int) (wk (tellE x) k (bl, pl) A ch).2.2 (wk (tellE x) k (bl, pl) A ch).2.1.1 (wk (tellE x) k (bl, pl) A ch).2.1.2 (wrap64 ((i : Int) + 1))) R →
   Ev (fun q => zae.l1 q l (n : Int) ch bl pl (i : Int) (A : Int) ((k : Int) - 1)) R := by
 intro k
 induction k with
 | zero =>
  intro _ A bl pl ch hA hl hF hb hp h
  refine Ev.step (fun q => ?_) h
  simp only [zae.l1]
  rw [if_neg (by omega)]
  rfl
 | succ k ih =>
  intro hk A bl pl ch hA hl hF hb hp h
  have hn9 := pow9 hn
  have hA2 : A < ch.length := by
   rw [hl]
   refine Nat.lt_of_lt_of_le hA ?_
   rw [← Nat.pow_succ']
   exact Nat.pow_le_pow_right (by omega) (by omega)
  have hpp := hF.at_ hA2
  have hrd : rd ch (A : Int) = ch.getD A 0 := rd_nat ch A
  rw [wk] at h
  obtain ⟨p, ep⟩ : ∃ p, ch.getD A 0 = p := ⟨_, rfl⟩
  rw [ep] at hpp hrd h
  have hnk : 2 ^ (n - k) = 2 * 2 ^ (n - (k + 1)) := by
   rw [← Nat.pow_succ']; congr 1; omega
  have hbb : (if bitOf x k then 1 else 0) ≤ 1 := by split <;> omega
  have hba := bit_and x k hx
  have h1 := ih (by omega) (2 * A + if bitOf x k then 1 else 0) (bl ++ [bitOf x k]) (pl ++ [p]) (ch.set A (upd p (bitOf x k))) (by omega) (by rw [List.length_set]; exact hl) (hF.set A (upd_in hpp.1 hpp.2)) (by simp; omega) (by simp; omega) h
  have e1 : (((k + 1 : Nat) : Int) - 1) = (k : Int) := by omega
  rw [e1]
  refine Ev.step (fun q => ?_) h1
  simp only [zae.l1]
  rw [if_pos (by omega), if_pos (by omega), if_pos (by omega), if_pos (by rw [wu64 (by omega) (by omega)]; omega), if_pos (by omega), rd_some hi, shr_i64 x k (by omega), hba]
  simp only [Option.bind_some]
  rw [if_pos (by omega), if_pos (by omega), if_pos (by omega), hrd, update_ok p _ (by omega) (by omega), Int.toNat_natCast, w64 (x := (k : Int) - 1) (by omega) (by omega), w64 (x := (A : Int) * 2) (by omega) (by omega), w64 (x := (A : Int) * 2 + 1) (by omega) (by omega)]
  simp only [Option.bind_some]
  cases hb2 : bitOf x k with
  | true =>
   rw [hb2] at hba
   rw [if_pos (beq_iff_eq.1 hba)]
   congr 1
   rw [if_pos rfl]; omega
  | false =>
   rw [hb2] at hba
   rw [if_neg (by intro e; rw [e] at hba; simp at hba)]
   congr 1
   rw [if_neg (by decide)]; omega
theorem enc_l0 (l : List Int) (n : Nat) (hn : 1 ≤ n ∧ n ≤ 9) (hw : ∀ x ∈ l, x < 9223372036854775808) (hl : l.length ≤ 300) (d : Nat) : ∀ (i : Nat) (bl : List Bool) (pl ch : List Int), i + d = l.length → bl.length = n * i → pl.length = n * i → ch.length = 2 ^ n → FineC ch →
  Ev (fun q => zae.l0 q l (n : Int) ch bl pl (i : Int)) (match encT n (l.drop i) (bl, pl) ch with | none => (⟨#[]⟩, 2) | some r => encP r.1 r.2) := by
 induction d with
 | zero =>
  intro i bl pl ch hi h1 h2 _ _
  have hb : n * i ≤ 9 * 300 := Nat.mul_le_mul hn.2 (by omega)
  rw [List.drop_eq_nil_of_le (by omega)]
  refine Ev.step (f := fun q => (zan.f q bl pl).bind fun bt => some (bt.1, bt.2)) (fun q => ?_) (Ev.bind (rencode_ev bl pl (by omega) (by omega)) (Ev.now _))
  simp only [zae.l0]
  rw [if_neg (by omega)]
 | succ d ih =>
  intro i bl pl ch hi h1 h2 h3 h4
  have hp := pow9 hn.2
  have hb : n * i + n ≤ 9 * 300 := by
   have : n * (i + 1) ≤ 9 * 300 := Nat.mul_le_mul hn.2 (by omega)
   rw [Nat.mul_succ] at this; exact this
  have hi1 : l[i]? = some (l[i]'(by omega)) := List.getElem?_eq_getElem (by omega)
  have hxw := hw _ (List.getElem_mem (by omega : i < l.length))
  rw [List.drop_eq_getElem_cons (by omega : i < l.length)]
  generalize l[i]'(by omega) = x at *
  rw [encT]
  by_cases hx : x < 0 ∨ (2 ^ n : Nat) ≤ x
  ·rw [if_pos hx]
   have hj : Ev (fun q => zae.j2 q l (n : Int) ch bl pl (i : Int) true) ((⟨#[]⟩ : ByteArray), (2 : Int)) := by
    refine Ev.step (f := fun _ => some ((⟨#[]⟩ : ByteArray), (2 : Int))) (fun q => ?_) (Ev.now _)
    simp only [zae.j2]
    rw [if_pos trivial]
   refine Ev.step (f := fun q => zae.j2 q l (n : Int) ch bl pl (i : Int) true) (fun q => ?_) hj
   simp only [zae.l0]
   rw [if_pos (by omega), if_pos (by omega), rd_some hi1]
   by_cases h0 : x < 0
   ·rw [if_pos h0]
   ·rw [if_neg h0, if_pos (by rw [wu64 (by omega) (by omega)]; omega), shl9 hn.2, decide_eq_true (by omega)]
  ·rw [if_neg hx]
   obtain ⟨y, rfl⟩ : ∃ y : Nat, x = y := ⟨x.toNat, by omega⟩
   rw [Int.toNat_natCast]
   obtain ⟨bs, ps, ch', g1, g2, g3, g4, g5, g6, g7⟩ := wk_tr n y n (Nat.le_refl _) 1 ch (by simp) h3 h4
   have hwk := g6 (bl, pl)
   have h := ih (i + 1) (bl ++ bs) (pl ++ ps) ch' (by omega) (by rw [Nat.mul_succ]; simp; omega) (by rw [Nat.mul_succ]; simp; omega) g4 g5
   rw [hwk]
   have h' := enc_l1 l n hn.2 i y hi1 (by omega) (by omega) _ n (Nat.le_refl _) 1 bl pl ch (by simp) h3 h4 (by omega) (by omega) (by
    rw [hwk, w64 (x := (i : Int) + 1) (by omega) (by omega)]
    exact h)
   have hj : Ev (fun q => zae.j2 q l (n : Int) ch bl pl (i : Int) false) (match encT n (l.drop (i + 1)) (bl ++ bs, pl ++ ps) ch' with | none => ((⟨#[]⟩ : ByteArray), (2 : Int)) | some r => encP r.1 r.2) := by
    refine Ev.step (fun q => ?_) h'
    simp only [zae.j2]
    rw [if_neg (by decide), w64 (x := (n : Int) - 1) (by omega) (by omega)]
    rfl
   refine Ev.step (fun q => ?_) hj
   simp only [zae.l0]
   rw [if_pos (by omega), if_pos (by omega), rd_some hi1, if_neg (by omega), if_pos (by rw [wu64 (by omega) (by omega)]; omega), shl9 hn.2, decide_eq_false (by omega)]
theorem rbt_enc (l : List Int) (n : Int) (hw : ∀ x ∈ l, x < 9223372036854775808) (hl : l.length ≤ 300) : Ev (fun q => zae.f q l n) (btEnc l n) := by
 unfold zae.f btEnc
 have hj : Ev (fun q => zae.j0 q l n true) ((⟨#[]⟩ : ByteArray), (1 : Int)) := by
  refine Ev.step (f := fun _ => some ((⟨#[]⟩ : ByteArray), (1 : Int))) (fun q => ?_) (Ev.now _)
  simp only [zae.j0]
  rw [if_pos trivial]
 by_cases h1 : n < 1
 ·rw [if_pos (Or.inl h1)]; exact Ev.ifp h1 hj
 ·refine Ev.ifn h1 ?_
  by_cases h2 : n > 9
  ·rw [if_pos (Or.inr h2), decide_eq_true h2]; exact hj
  ·rw [if_neg (by omega), decide_eq_false h2]
   obtain ⟨m, rfl⟩ : ∃ m : Nat, n = m := ⟨n.toNat, by omega⟩
   rw [Int.toNat_natCast]
   refine Ev.step (f := fun q => (zav.f q (m : Int)).bind fun t => zae.l0 q l (m : Int) t ([] : List Bool) ([] : List Int) 0) (fun q => ?_) ?_
   ·simp only [zae.j0]
    rw [if_neg (by decide)]
   ·exact Ev.bind (fresh_ev m (by omega)) (enc_l0 l m (by omega) hw hl l.length 0 [] [] (List.replicate (2 ^ m) 1024) (by omega) rfl rfl (by simp) (fineC_new m))
end Go.Proofs.YtdifgiceallpiaaDoor.Pure
end
section
namespace Go.Proofs.YtdifgiceallpiaaDoor.Pure
open Go Go.RowKit Go.Proofs.YtdifgiceallpiaaDoorW.PrintWords Go.Proofs.YtdifgiceallpiaaDoorW.PrintMore Go.Proofs.YtdifgiceallpiaaDoor.P Go.Proofs.YtdifgiceallpiaaDoor.Pr Go.Proofs.YtdifgiceallpiaaDoor.Com Go.Proofs.YtdifgiceallpiaaDoor.Rn Go.Proofs.YtdifgiceallpiaaDoor.Hd
theorem put_nat {n : Nat} (hn : n ≤ 65536) : put (n : Int) = (bs n, 0) := by
  unfold put inR
  rw [decide_eq_true (by omega), if_pos rfl, Int.toNat_natCast]
theorem rso_ev (s : ByteArray) (hs : s.size ≤ 150) : Ev (fun k => zb4.f k s) (putT s, 0) := by
  have hl := zci s
  have ha := tA_le s
  have b1 := bs_small (n := s.size) (by omega)
  have b2 := bs_small (n := tA s) (by omega)
  have b3 := bs_small (n := (sgT s).length) (by omega)
  have b4 := enB_size (s := s) (by omega)
  unfold zb4.f
  refine Ev.ifn (by omega) ?_
  refine Ev.bind (f := fun k t => _) (rturn_ev (s := s) (by omega)) ?_
  have h1 : Ev (fun k => zaq.f k (tS s)) (mvT s) := rmove_ev (tS s) (by rw [tS_size]; omega)
  refine Ev.bind (f := fun k t => _) h1 ?_
  have h2 := rpack_ev (mvT s) (by rw [zcp]; omega)
  rw [sgT_eq] at h2
  refine Ev.bind (f := fun k t => _) h2 ?_
  have p1 := rput_ev (s.size : Int)
  rw [put_nat (by omega)] at p1
  refine Ev.bind (f := fun k t => _) p1 ?_
  have p2 := rput_ev (tA s : Int)
  rw [put_nat (by omega)] at p2
  refine Ev.bind (f := fun k t => _) p2 ?_
  have p3 := rput_ev ((sgT s).length : Int)
  rw [put_nat (by omega)] at p3
  refine Ev.bind (f := fun k t => _) p3 ?_
  have h3 := rbt_enc (sgT s) 9 (fun x hx => by have := sgT_in s x hx; omega) (by omega)
  rw [enB_eq (by omega)] at h3
  refine Ev.bind (f := fun k t => _) h3 ?_
  dsimp only
  refine Ev.ifp (by omega) (Ev.ifp (by rw [ByteArray.size_append]; omega) (Ev.ifp (by rw [ByteArray.size_append, ByteArray.size_append]; omega) (Ev.now _)))
end Go.Proofs.YtdifgiceallpiaaDoor.Pure
end
section
namespace Go.Proofs.YtdifgiceallpiaaDoor.Hd
open Go Go.RowKit Go.Proofs.YtdifgiceallpiaaDoorW.PrintWords Go.Proofs.YtdifgiceallpiaaDoorW.PrintLast Go.Proofs.YtdifgiceallpiaaDoorW.PrintMore Go.Proofs.YtdifgiceallpiaaDoor.Hw Go.Proofs.YtdifgiceallpiaaDoor.Com Go.Proofs.YtdifgiceallpiaaDoor.P Go.Proofs.YtdifgiceallpiaaDoor.Pr Go.Proofs.YtdifgiceallpiaaDoor.Pure
attribute [local go_sem] za9 za8 zbi zbj za0 za1 zba zbb
theorem rput_at (s : ByteArray) (w : World) (hs : s.size ≤ 150) : Calls Tryd.prog 7 #[.string s] w fun e w' => e = .returned (.tuple #[.string (putT s), .int .i64 0]) ∧ Below w.heap.size w w' := by
  obtain ⟨k, hk⟩ := so_get (rso_ev s hs)
  exact zb4.calls k s _ _ w hk
set_option maxHeartbeats 8000000 in
set_option maxRecDepth 100000 in
theorem SortedPuts_walk (s : ByteArray) (w : World) (hg : ErrT w) : Calls Tryd.prog 3 #[.string s] w fun e w' => e = .returned (.bool true) ∧ Below w.heap.size w w' := by
  have HG := zaa.mk hg
  clear hg
  by_cases h1 : (s.size : Int) > 150
  · have t1 : decide (150 < (s.size : Int)) = true := decide_eq_true h1
    have t1b : decide (150 < s.size) = true := decide_eq_true (by omega)
    clear h1
    go_enter Tryd.func3, Tryd.ntmps3
    go_wp2_with (first
      | (go_at_call 5; (with_reducible refine (awake_at _ HG.out).mono ?_); rintro e w1 ⟨rfl, hB⟩; have B := zaa.mk hB; clear hB))
    go_ret
    exact ⟨rfl, B.out⟩
  · have t1 : decide (150 < (s.size : Int)) = false := decide_eq_false h1
    have t1b : decide (150 < s.size) = false := decide_eq_false (by omega)
    have HS := zaa.mk (show s.size ≤ 150 by omega)
    have HS2 := zaa.mk (show s.size ≤ 65536 by omega)
    clear h1
    go_enter Tryd.func3, Tryd.ntmps3
    go_wp2_with (first
      | (go_at_call 6; (with_reducible refine (put_ok s _ HS2.out).mono ?_); rintro e w2 ⟨rfl, hB⟩; have HG := zaa.mk (HG.out.below hB); have B := zaa.mk hB; clear hB)
      | (go_at_call 7; (with_reducible refine (rput_at s _ HS.out).mono ?_); rintro e w3 ⟨rfl, hB⟩; have HG := zaa.mk (HG.out.below hB); have B := zaa.mk (zaf B.out hB); clear hB)
      | (go_at_call 5; (with_reducible refine (awake_at _ HG.out).mono ?_); rintro e w1 ⟨rfl, hB⟩; have B := zaa.mk (zaf B.out hB); clear hB))
    go_ret
    exact ⟨rfl, B.out⟩
end Go.Proofs.YtdifgiceallpiaaDoor.Hd
end
