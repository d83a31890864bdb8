/- gladstoneref19.Sort: printed by the kit's print program; the law of '>' of strings is this session's. -/
import Derived.Test.YtdifgiceallpiaaDoorXPx0
import Derived.Test.YtdifgiceallpiaaDoorXSaSrt
set_option linter.unusedVariables false
set_option linter.unusedSimpArgs false
set_option linter.unusedSectionVars false
section
namespace Go.Proofs.YtdifgiceallpiaaDoor.Hd
open Go Go.RowKit YtdifgiceallpiaaDoorW.PrintWords YtdifgiceallpiaaDoorW.PrintLast YtdifgiceallpiaaDoorW.PrintMore YtdifgiceallpiaaDoor.P
attribute [local go_sem] za9 za8 zbi zbj za0 za1 zba zbb
theorem bl_lt : ∀ (x y : List UInt8), Op.bytesLess x y = decide (x < y)
 | [], [] => by simp [Op.bytesLess]
 | _ :: _, [] => by simp [Op.bytesLess]
 | [], _ :: _ => by simp [Op.bytesLess]
 | a :: x, b :: y => by
  rw [Op.bytesLess, bl_lt x y]
  simp only [List.cons_lt_cons_iff]
  by_cases h1 : a < b <;> by_cases h2 : a = b <;> by_cases h3 : x < y <;> simp [h1, h2, h3]
theorem bl_gt (x y : List UInt8) : (!(Op.bytesLess x y || x == y)) = Op.bytesLess y x := by
 rw [bl_lt, bl_lt]
 by_cases h : y < x
 ·have h1 : ¬ x < y := fun h1 => absurd (List.lt_trans h h1) (List.lt_irrefl _)
  have h2 : x ≠ y := fun e => by rw [e] at h; exact absurd h (List.lt_irrefl _)
  simp [h, h1, h2]
 ·rcases List.le_iff_lt_or_eq.1 (List.not_lt.1 h) with h1 | h1
  ·simp [h, h1]
  ·simp [h1, List.lt_irrefl]
theorem str_gtr (t : TypeId) (a b : ByteArray) : binOp .gtr t (.string a) (.string b) = pure (.bool (Op.bytesLess b.toList a.toList)) := by
 rw [← bl_gt]
 simp [binOp, Op.stringOp]
theorem str_geq (t : TypeId) (a b : ByteArray) : binOp .geq t (.string a) (.string b) = pure (.bool !(Op.bytesLess a.toList b.toList)) := by simp [binOp, Op.stringOp]
attribute [local go_sem] str_gtr
mutual
def zai.l0 : Nat → ByteArray → List Int → Int → Option (List Int)
 | 0, _, _, _ => none
 | k + 1, x0, x3, x4 => if x4 ≥ 0 then (zai.l1 k x0 x3 x4 (x3.length : Int)) else (some x3)
def zai.l1 : Nat → ByteArray → List Int → Int → Int → Option (List Int)
 | 0, _, _, _, _ => none
 | k + 1, x0, x3, x4, x5 => if x5 > 0 then (if 0 ≤ (wrap64 (x5 - 1)) then (if (wrap64 (x5 - 1)) < (x3.length : Int) then (if 0 ≤ (rd x3 (wrap64 (x5 - 1))) then (if (rd x3 (wrap64 (x5 - 1))) ≤ (x0.size : Int) then (if 0 ≤ x4 then (if x4 ≤ (x0.size : Int) then (if (Op.bytesLess ((x0.extract (x4 : Int).toNat x0.size).toList) ((x0.extract ((rd x3 (wrap64 (x5 - 1))) : Int).toNat x0.size).toList)) = true then (zai.l1 k x0 x3 x4 (wrap64 (x5 - 1))) else (if 0 ≤ x5 then (if x5 ≤ (x3.length : Int) then ((some (x3.take (x5 : Int).toNat : List Int)).bind fun y157 => (if ([] : List Int).length + y157.length < 17592186044416 then ((some (([] : List Int) ++ y157 : List Int)).bind fun y161 => (if y161.length < 17592186044416 then ((some (y161 ++ [x4] : List Int)).bind fun y164 => ((some (x3.drop (x5 : Int).toNat : List Int)).bind fun y167 => (if y164.length + y167.length < 17592186044416 then (zai.l0 k x0 (y164 ++ y167) (wrap64 (x4 - 1))) else (none)))) else (none))) else (none))) else (none)) else (none))) else (none)) else (none)) else (none)) else (none)) else (none)) else (none)) else (if 0 ≤ x5 then (if x5 ≤ (x3.length : Int) then ((some (x3.take (x5 : Int).toNat : List Int)).bind fun y174 => (if ([] : List Int).length + y174.length < 17592186044416 then ((some (([] : List Int) ++ y174 : List Int)).bind fun y178 => (if y178.length < 17592186044416 then ((some (y178 ++ [x4] : List Int)).bind fun y181 => ((some (x3.drop (x5 : Int).toNat : List Int)).bind fun y184 => (if y181.length + y184.length < 17592186044416 then (zai.l0 k x0 (y181 ++ y184) (wrap64 (x4 - 1))) else (none)))) else (none))) else (none))) else (none)) else (none))
end
def zai.f (k : Nat) (a0 : ByteArray) : Option (List Int) := zai.l0 k a0 ([] : List Int) (wrap64 ((a0.size : Int) - 1))
theorem zai.calls (k : Nat) (a0 : ByteArray) (r : List Int) (w : World) (h : zai.f k a0 = some r) :
  Calls Tryd.prog 30 #[.string a0] w fun e w' => ∃ v0_ : Value, e = .returned (v0_) ∧ Kd.R (Kd.int .i64) 3 w' w.heap.size (fun _ => True) v0_ r ∧ Below w.heap.size w w' := by
 have HB := zaa.mk (Below.refl w.heap.size w)
 have H : (zai.l0 k a0 ([] : List Int) (wrap64 ((a0.size : Int) - 1))) = some r := h
 clear h
 have H' := zaa.mk H
 clear H
 go_enter Tryd.func30, Tryd.ntmps30
 go_wp2
 repeat (go_quiet (fail); try go_wp2)
 go_loopg [3, 4] k (fun kq v3 v4 w' => ∃ (x3_1 : List Int) (x4_1 : Int), v4 = .int .i64 x4_1 ∧ zaa (zai.l0 kq a0 x3_1 x4_1 = some r) ∧ zaa (kq ≤ k) ∧ zaa (Kd.R (Kd.int .i64) 3 w' w.heap.size (fun _ => True) v3 x3_1) ∧ zaa (Below w.heap.size w w'))
 case atStart => exact ⟨(([] : List Int)), (wrap64 ((a0.size : Int) - 1)), rfl, H', ⟨Nat.le_refl _⟩, ⟨by first | exact Kd.R_nil _ _ _ _ _ | exact Kd.N_nil _ _ _ _ _ | exact Kd.V_nil _ _ _ _ _ | exact Kd.Q_nil _ _ _ _ _ | exact Kd.S_nil _ _ _ _ _⟩, ⟨by repeat (first | exact HB.out | apply zac | apply zab | apply zad)⟩⟩
 case round =>
  clear H'
  obtain ⟨x3_1, x4_1, rfl, HA, HK1, HO_3, HB⟩ := hrel
  cases gk with
  | zero => exact absurd HA.out (by simp [zai.l0])
  | succ k1 =>
   have H := HA.out
   clear HA
   simp only [zai.l0] at H
   by_cases c2 : x4_1 ≥ 0
   ·rw [if_pos c2] at H
    have c2b0 : decide (0 ≤ x4_1) = true := decide_eq_true c2
    clear c2
    have H' := zaa.mk H
    clear H
    obtain ⟨Ao3, co3, eo3⟩ := Kd.R_slice HO_3.out
    subst eo3
    go_wp2
    repeat (go_quiet (fail); try go_wp2)
    go_loopg [5] k1 (fun kq v5 w' => ∃ (x5_2 : Int), v5 = .int .i64 x5_2 ∧ zaa (zai.l1 kq a0 x3_1 x4_1 x5_2 = some r) ∧ zaa (kq ≤ k1) ∧ zaa (Kd.R (Kd.int .i64) 3 w' w.heap.size (fun _ => True) (.slice Ao3 x3_1.length co3) x3_1) ∧ zaa (Below w.heap.size w w'))
    case atStart => exact ⟨((x3_1.length : Int)), rfl, H', ⟨Nat.le_refl _⟩, ⟨by (with_reducible repeat (first | apply Kd.R_alloc | apply Kd.R_drewN | apply Kd.R_drew)); exact HO_3.out⟩, ⟨by repeat (first | exact HB.out | apply zac | apply zab | apply zad)⟩⟩
    case round =>
     clear H'
     obtain ⟨x5_2, rfl, HA, HK2, HO_3, HB⟩ := hrel
     cases gk with
     | zero => exact absurd HA.out (by simp [zai.l1])
     | succ k2 =>
      have H := HA.out
      clear HA
      simp only [zai.l1] at H
      by_cases c4 : x5_2 > 0
      ·rw [if_pos c4] at H
       have c4b0 : decide (0 < x5_2) = true := decide_eq_true c4
       clear c4
       obtain ⟨ji5, hji5⟩ : ∃ j_ : Int, (wrap64 (x5_2 - 1)) = j_ := ⟨_, rfl⟩
       replace H : (if 0 ≤ (ji5) then (if (ji5) < (x3_1.length : Int) then (if 0 ≤ (rd x3_1 (ji5)) then (if (rd x3_1 (ji5)) ≤ (a0.size : Int) then (if 0 ≤ x4_1 then (if x4_1 ≤ (a0.size : Int) then (if (Op.bytesLess ((a0.extract (x4_1 : Int).toNat a0.size).toList) ((a0.extract ((rd x3_1 (ji5)) : Int).toNat a0.size).toList)) = true then (zai.l1 k2 a0 x3_1 x4_1 ji5) else (if 0 ≤ x5_2 then (if x5_2 ≤ (x3_1.length : Int) then ((some (x3_1.take (x5_2 : Int).toNat : List Int)).bind fun y157 => (if ([] : List Int).length + y157.length < 17592186044416 then ((some (([] : List Int) ++ y157 : List Int)).bind fun y161 => (if y161.length < 17592186044416 then ((some (y161 ++ [x4_1] : List Int)).bind fun y164 => ((some (x3_1.drop (x5_2 : Int).toNat : List Int)).bind fun y167 => (if y164.length + y167.length < 17592186044416 then (zai.l0 k2 a0 (y164 ++ y167) (wrap64 (x4_1 - 1))) else (none)))) else (none))) else (none))) else (none)) else (none))) else (none)) else (none)) else (none)) else (none)) else (none)) else (none)) = some r := by first | (rw [hji5] at H; exact H) | (simp only [hji5] at H ⊢; exact H)
       have hji5w : (IntKind.i64.wrap (x5_2 - 1)) = ji5 := (i64_w _).trans hji5
       by_cases c6 : 0 ≤ (ji5)
       ·rw [if_pos c6] at H
        have c6b0 : decide (0 ≤ (ji5)) = true := decide_eq_true c6
        clear c6
        by_cases c7 : (ji5) < (x3_1.length : Int)
        ·rw [if_pos c7] at H
         have c7b0 : decide ((ji5) < (x3_1.length : Int)) = true := decide_eq_true c7
         clear c7
         by_cases c8 : 0 ≤ (rd x3_1 (ji5))
         ·rw [if_pos c8] at H
          have c8b0 := eq_true c8
          have c8b1 : decide (0 ≤ (rd x3_1 (ji5))) = true := decide_eq_true c8
          clear c8
          by_cases c9 : (rd x3_1 (ji5)) ≤ (a0.size : Int)
          ·rw [if_pos c9] at H
           have c9b0 := eq_true c9
           have c9b1 : decide ((rd x3_1 (ji5)) ≤ (a0.size : Int)) = true := decide_eq_true c9
           clear c9
           by_cases c10 : 0 ≤ x4_1
           ·rw [if_pos c10] at H
            have c10b0 := eq_true c10
            have c10b1 : decide (0 ≤ x4_1) = true := decide_eq_true c10
            clear c10
            by_cases c11 : x4_1 ≤ (a0.size : Int)
            ·rw [if_pos c11] at H
             have c11b0 := eq_true c11
             have c11b1 : decide (x4_1 ≤ (a0.size : Int)) = true := decide_eq_true c11
             clear c11
             by_cases c12 : (Op.bytesLess ((a0.extract (x4_1 : Int).toNat a0.size).toList) ((a0.extract ((rd x3_1 (ji5)) : Int).toNat a0.size).toList)) = true
             ·rw [if_pos c12] at H
              have c12b0 : (Op.bytesLess ((a0.extract (x4_1 : Int).toNat a0.size).toList) ((a0.extract ((rd x3_1 (ji5)) : Int).toNat a0.size).toList)) = true := c12
              clear c12
              have H' := zaa.mk H
              clear H
              have p156 : 0 ≤ ((ji5) : Int) := of_decide_eq_true (by assumption)
              have q156 : (ji5) < (x3_1.length : Int) := of_decide_eq_true (by assumption)
              obtain ⟨ad156, e156, hx156_0⟩ := Kd.at_int (Kd.R_reads' HO_3.out).2.2 (ji5) p156 q156
              cases e156
              replace p156 := eq_true p156
              replace q156 := eq_true q156
              go_wp2
              repeat (go_quiet (fail); try go_wp2)
              go_roundg k2
              case measure => have := HK1.out; have := HK2.out; omega
              case rel => exact ⟨(ji5), (by first | rfl | (simp; done) | (simp only [← hji5] <;> (first | rfl | simp)) | (simp [*]; done)), H', ⟨by have := HK1.out; have := HK2.out; omega⟩, ⟨by (with_reducible repeat (first | apply Kd.R_alloc | apply Kd.R_drewN | apply Kd.R_drew)); exact HO_3.out⟩, ⟨by repeat (first | exact HB.out | apply zac | apply zab | apply zad)⟩⟩
             ·rw [if_neg c12] at H
              have c12b0 : (Op.bytesLess ((a0.extract (x4_1 : Int).toNat a0.size).toList) ((a0.extract ((rd x3_1 (ji5)) : Int).toNat a0.size).toList)) = false := by simpa using c12
              clear c12
              by_cases c13 : 0 ≤ x5_2
              ·rw [if_pos c13] at H
               have c13b0 := eq_true c13
               have c13b1 : decide (0 ≤ x5_2) = true := decide_eq_true c13
               clear c13
               by_cases c14 : x5_2 ≤ (x3_1.length : Int)
               ·rw [if_pos c14] at H
                have c14b0 := eq_true c14
                have c14b1 : decide (x5_2 ≤ (x3_1.length : Int)) = true := decide_eq_true c14
                clear c14
                obtain ⟨y157, hy157⟩ : ∃ y_ : List Int, y_ = (x3_1.take (x5_2 : Int).toNat) := ⟨_, rfl⟩
                replace H : (if ([] : List Int).length + y157.length < 17592186044416 then ((some (([] : List Int) ++ y157 : List Int)).bind fun y161 => (if y161.length < 17592186044416 then ((some (y161 ++ [x4_1] : List Int)).bind fun y164 => ((some (x3_1.drop (x5_2 : Int).toNat : List Int)).bind fun y167 => (if y164.length + y167.length < 17592186044416 then (zai.l0 k2 a0 (y164 ++ y167) (wrap64 (x4_1 - 1))) else (none)))) else (none))) else (none)) = some r := by first | (rw [hy157]; with_reducible exact H) | (have H2_ := (Option.bind_some _ _).symm.trans H; rw [hy157]; with_reducible exact H2_) | (have H2_ := (Option.bind_some _ _).symm.trans H; with_reducible exact H2_) | with_reducible exact H | (rw [hy157]; exact H) | exact H
                have Ny157 := zaa.mk hy157
                clear hy157
                by_cases c15 : ([] : List Int).length + y157.length < 17592186044416
                ·rw [if_pos c15] at H
                 have LMc15 := zaa.mk c15
                 clear c15
                 obtain ⟨y161, hy161⟩ : ∃ y_ : List Int, y_ = (([] : List Int) ++ y157) := ⟨_, rfl⟩
                 replace H : (if y161.length < 17592186044416 then ((some (y161 ++ [x4_1] : List Int)).bind fun y164 => ((some (x3_1.drop (x5_2 : Int).toNat : List Int)).bind fun y167 => (if y164.length + y167.length < 17592186044416 then (zai.l0 k2 a0 (y164 ++ y167) (wrap64 (x4_1 - 1))) else (none)))) else (none)) = some r := by first | (rw [hy161]; with_reducible exact H) | (have H2_ := (Option.bind_some _ _).symm.trans H; rw [hy161]; with_reducible exact H2_) | (have H2_ := (Option.bind_some _ _).symm.trans H; with_reducible exact H2_) | with_reducible exact H | (rw [hy161]; exact H) | exact H
                 have Ny161 := zaa.mk hy161
                 clear hy161
                 by_cases c16 : y161.length < 17592186044416
                 ·rw [if_pos c16] at H
                  have LMc16 := zaa.mk c16
                  clear c16
                  obtain ⟨y164, hy164⟩ : ∃ y_ : List Int, y_ = (y161 ++ [x4_1]) := ⟨_, rfl⟩
                  replace H : ((some (x3_1.drop (x5_2 : Int).toNat : List Int)).bind fun y167 => (if y164.length + y167.length < 17592186044416 then (zai.l0 k2 a0 (y164 ++ y167) (wrap64 (x4_1 - 1))) else (none))) = some r := by first | (rw [hy164]; with_reducible exact H) | (have H2_ := (Option.bind_some _ _).symm.trans H; rw [hy164]; with_reducible exact H2_) | (have H2_ := (Option.bind_some _ _).symm.trans H; with_reducible exact H2_) | with_reducible exact H | (rw [hy164]; exact H) | exact H
                  have Ny164 := zaa.mk hy164
                  clear hy164
                  have c17b0 := eq_true (of_decide_eq_true (by assumption) : 0 ≤ x5_2)
                  have c18b0 := eq_true (of_decide_eq_true (by assumption) : x5_2 ≤ (x3_1.length : Int))
                  obtain ⟨y167, hy167⟩ : ∃ y_ : List Int, y_ = (x3_1.drop (x5_2 : Int).toNat) := ⟨_, rfl⟩
                  replace H : (if y164.length + y167.length < 17592186044416 then (zai.l0 k2 a0 (y164 ++ y167) (wrap64 (x4_1 - 1))) else (none)) = some r := by first | (rw [hy167]; with_reducible exact H) | (have H2_ := (Option.bind_some _ _).symm.trans H; rw [hy167]; with_reducible exact H2_) | (have H2_ := (Option.bind_some _ _).symm.trans H; with_reducible exact H2_) | with_reducible exact H | (rw [hy167]; exact H) | exact H
                  have Ny167 := zaa.mk hy167
                  clear hy167
                  by_cases c19 : y164.length + y167.length < 17592186044416
                  ·rw [if_pos c19] at H
                   have LMc19 := zaa.mk c19
                   clear c19
                   obtain ⟨y171, hy171⟩ : ∃ y_ : List Int, y_ = (y164 ++ y167) := ⟨_, rfl⟩
                   replace H : (zai.l0 k2 a0 y171 (wrap64 (x4_1 - 1))) = some r := by first | (rw [hy171]; with_reducible exact H) | (have H2_ := (Option.bind_some _ _).symm.trans H; rw [hy171]; with_reducible exact H2_) | (have H2_ := (Option.bind_some _ _).symm.trans H; with_reducible exact H2_) | with_reducible exact H | (rw [hy171]; exact H) | exact H
                   have Ny171 := zaa.mk hy171
                   clear hy171
                   have H' := zaa.mk H
                   clear H
                   have p156 : 0 ≤ ((ji5) : Int) := of_decide_eq_true (by assumption)
                   have q156 : (ji5) < (x3_1.length : Int) := of_decide_eq_true (by assumption)
                   obtain ⟨ad156, e156, hx156_0⟩ := Kd.at_int (Kd.R_reads' HO_3.out).2.2 (ji5) p156 q156
                   cases e156
                   replace p156 := eq_true p156
                   replace q156 := eq_true q156
                   have q20 : (x5_2 : Int) ≤ ((x3_1.length : Int) : Int) := of_decide_eq_true (by assumption)
                   obtain ⟨i020, hi020, _, hsz20, _⟩ := info_parts info3
                   have hroom20 : x3_1.length ≤ co3 := (Kd.R_reads' HO_3.out).2.1
                   have hC20 : Kd.C (Kd.int .i64) _ (some ad156) x3_1.length x3_1 := (Kd.R_reads' HO_3.out).2.2
                   have hcut20 := cut_to (P := Tryd.prog) 29 3 .i64 Tryd.underlying29 hi020 (some ad156) x3_1.length co3 x5_2 (of_decide_eq_true (by first | (with_reducible assumption) | assumption)) q20 hroom20
                   have hr20 := Kd.C_take (m := (x5_2 : Int).toNat) hC20 (by omega)
                   have hy20 : y157.length = (x5_2 : Int).toNat := (by rw [Ny157.out, List.length_take]; omega)
                   rw [← Ny157.out] at hr20
                   rw [← hy20] at hcut20
                   have HR160 := zaa.mk hr20
                   have HC160 := zaa.mk (show y157.length ≤ co3 from by omega)
                   clear hr20 hC20 hroom20 hi020 hsz20
                   have KY20 := zaa.mk hy20
                   clear hy20
                   have KL20 := zaa.mk (show (x5_2 : Int).toNat ≤ x3_1.length from by omega)
                   replace q20 := eq_true q20
                   go_wp2
                   repeat (go_quiet (first | ((with_reducible refine zaw (b := .append) (xs := #[.tmp 33, .tmp 36]) rfl ?_); at_builtin; refine Kd.R_append_rows (Kd.int .i64) (w0 := w) w.heap.size rfl (.tmp 33) (.tmp 36) 29 3 (.int .i64 0) 8 rfl Tryd.underlying29 info3 rfl (by decide) (by omega) (.slice none 0 0) ([] : List Int) y157 _ _ _ (fun k_ => some k_ ≠ (.slice (some ad156) x3_1.length co3 : Value).ownBlock) (fun _ => False) rfl rfl ?aO ?aR (fun _ _ h => h) (fun _ h => h.elim) ?aF ?aB ?aS ?aL ?_; (case aR => exact HR160.out); (case aB => exact (by repeat (first | exact HB.out | apply zac | apply zab | apply zad))); (case aF => exact (fun k_ hk => Kd.fresh' (Kd.R_lt (by (with_reducible repeat (first | apply Kd.R_alloc | apply Kd.R_drewN | apply Kd.R_drew)); exact HO_3.out)) k_ hk)); (case aO => exact ((Kd.R_nil _ _ _ _ (fun k_ => some k_ ≠ (.slice (some ad156) x3_1.length co3 : Value).ownBlock)))); (case aS => exact (zam (by repeat (first | exact HB.out | apply zac | apply zab | apply zad)))); (case aL => have := LMc15.out; omega); intro v162 w21 ho hb hg hat; rw [← Ny161.out] at ho; have n0_ := zaa.mk (Kd.R_after (Kd.R_apart_nil (by (with_reducible repeat (first | apply Kd.R_alloc | apply Kd.R_drewN | apply Kd.R_drew)); exact HO_3.out)) hg hat); have n1_ := zaa.mk (hb); have n2_ := zaa.mk ((show Kd.C (Kd.int .i64) w21 (some ad156) y157.length y157 from by rw [Ny157.out]; exact Kd.C_take (m := (x5_2 : Int).toNat) ((Kd.R_reads' (Kd.R_after (Kd.R_apart_nil (by (with_reducible repeat (first | apply Kd.R_alloc | apply Kd.R_drewN | apply Kd.R_drew)); exact HO_3.out)) hg hat)).2.2) KL20.out)); have n3_ := zaa.mk (ho); clear HO_3; clear HB; clear HR160; have HO_3 := n0_; have HB := n1_; have HR160 := n2_; have HO163 := n3_; clear n0_ n1_ n2_ n3_; clear ho hb hg hat) | ((with_reducible refine zaw (b := .append) (xs := #[.tmp 38, .tmp 40]) rfl ?_); at_builtin; refine Kd.R_append (Kd.int .i64) (w0 := w) w.heap.size rfl (.tmp 38) (.tmp 40) 29 3 (.int .i64 0) 8 rfl Tryd.underlying29 info3 rfl (by decide) (by omega) v162 y161 x4_1 [.int .i64 x4_1] (fun k_ => some k_ ≠ (.slice (some ad156) x3_1.length co3 : Value).ownBlock) (fun _ => False) rfl rfl ?aP (fun _ hk => hk.elim) ?aF ?aO ?aB ?aS ?aL ?_; (case aP => exact rfl); (case aB => exact (by repeat (first | exact HB.out | apply zac | apply zab | apply zad))); (case aF => exact (fun k_ hk => Kd.fresh' (Kd.R_lt (by (with_reducible repeat (first | apply Kd.R_alloc | apply Kd.R_drewN | apply Kd.R_drew)); exact HO_3.out)) k_ hk)); (case aO => exact (by (with_reducible repeat (first | apply Kd.R_alloc | apply Kd.R_drewN | apply Kd.R_drew)); exact HO163.out)); (case aS => exact (zam (by repeat (first | exact HB.out | apply zac | apply zab | apply zad)))); (case aL => have := LMc16.out; omega); intro v165 w22 ho hb hg hat; rw [← Ny164.out] at ho; have n0_ := zaa.mk (Kd.R_after (ok := (fun _ => True)) (by (with_reducible repeat (first | apply Kd.R_alloc | apply Kd.R_drewN | apply Kd.R_drew)); exact HO_3.out) hg hat); have n1_ := zaa.mk (hb); have n2_ := zaa.mk ((show Kd.C (Kd.int .i64) w22 (some ad156) y157.length y157 from by rw [Ny157.out]; exact Kd.C_take (m := (x5_2 : Int).toNat) ((Kd.R_reads' (Kd.R_after (ok := (fun _ => True)) (by (with_reducible repeat (first | apply Kd.R_alloc | apply Kd.R_drewN | apply Kd.R_drew)); exact HO_3.out) hg hat)).2.2) KL20.out)); have n3_ := zaa.mk (ho); clear HO_3; clear HB; clear HR160; clear HO163; have HO_3 := n0_; have HB := n1_; have HR160 := n2_; have HO166 := n3_; clear n0_ n1_ n2_ n3_; clear ho hb hg hat; have q23 : (x5_2 : Int) ≤ ((x3_1.length : Int) : Int) := of_decide_eq_true (by first | (with_reducible assumption) | assumption); obtain ⟨i023, hi023, _, hsz23, _⟩ := info_parts info3; have hroom23 : x3_1.length ≤ co3 := (Kd.R_reads' HO_3.out).2.1; have hC23 : Kd.C (Kd.int .i64) _ (some ad156) x3_1.length x3_1 := (Kd.R_reads' HO_3.out).2.2; have q023 : (0 : Int) ≤ (x5_2 : Int) := of_decide_eq_true (by first | (with_reducible assumption) | assumption); have hcut23 := cut_from (P := Tryd.prog) 29 3 .i64 Tryd.underlying29 hi023 1 hsz23 (some ad156) x3_1.length co3 x5_2 q023 q23; have hr23 := Kd.C_drop (m := (x5_2 : Int).toNat) (c := co3) hC23 (by omega) hroom23; obtain ⟨A23, hA23⟩ : ∃ A1, A1 = (if co3 = (x5_2 : Int).toNat then (some ad156) else ((some ad156) : Option Addr).map (·.add ((x5_2 : Int).toNat * 1))) := ⟨_, rfl⟩; obtain ⟨c23, hc23⟩ : ∃ c1, c1 = co3 - (x5_2 : Int).toNat := ⟨_, rfl⟩; have hy23 : y167.length = x3_1.length - (x5_2 : Int).toNat := (by rw [Ny167.out, List.length_drop] <;> omega); rw [show (x3_1).drop (x5_2 : Int).toNat = y167 from Ny167.out.symm] at hr23; replace hr23 : Kd.C (Kd.int .i64) _ A23 y167.length y167 := (by rw [hA23]; exact hr23); rw [← hy23, ← hA23, ← hc23] at hcut23; have HR170 := zaa.mk hr23; have HC170 := zaa.mk (show y167.length ≤ c23 from by rw [hy23, hc23]; exact Nat.sub_le_sub_right hroom23 _); clear hr23 hC23 hroom23 hi023 hsz23 hc23; have KY23 := zaa.mk hy23; have KA23 := zaa.mk hA23; clear hy23 hA23; have KL23 := zaa.mk (show (x5_2 : Int).toNat ≤ x3_1.length from by omega); replace q23 := eq_true q23) | ((with_reducible refine zaw (b := .append) (xs := #[.tmp 42, .tmp 45]) rfl ?_); at_builtin; refine Kd.R_append_rows (Kd.int .i64) (w0 := w) w.heap.size rfl (.tmp 42) (.tmp 45) 29 3 (.int .i64 0) 8 rfl Tryd.underlying29 info3 rfl (by decide) (by omega) v165 y164 y167 _ _ _ (fun k_ => some k_ ≠ (.slice (some ad156) x3_1.length co3 : Value).ownBlock) (fun _ => False) rfl rfl ?aO ?aR (fun _ _ h => h) (fun _ h => h.elim) ?aF ?aB ?aS ?aL ?_; (case aR => exact HR170.out); (case aB => exact (by repeat (first | exact HB.out | apply zac | apply zab | apply zad))); (case aF => exact (fun k_ hk => Kd.fresh' (Kd.R_lt (by (with_reducible repeat (first | apply Kd.R_alloc | apply Kd.R_drewN | apply Kd.R_drew)); exact HO_3.out)) k_ hk)); (case aO => exact (by (with_reducible repeat (first | apply Kd.R_alloc | apply Kd.R_drewN | apply Kd.R_drew)); exact HO166.out)); (case aS => exact (zam (by repeat (first | exact HB.out | apply zac | apply zab | apply zad)))); (case aL => have := LMc19.out; omega); intro v172 w24 ho hb hg hat; rw [← Ny171.out] at ho; have n0_ := zaa.mk (Kd.R_after (ok := (fun _ => True)) (by (with_reducible repeat (first | apply Kd.R_alloc | apply Kd.R_drewN | apply Kd.R_drew)); exact HO_3.out) hg hat); have n1_ := zaa.mk (hb); have n2_ := zaa.mk ((show Kd.C (Kd.int .i64) w24 (some ad156) y157.length y157 from by rw [Ny157.out]; exact Kd.C_take (m := (x5_2 : Int).toNat) ((Kd.R_reads' (Kd.R_after (ok := (fun _ => True)) (by (with_reducible repeat (first | apply Kd.R_alloc | apply Kd.R_drewN | apply Kd.R_drew)); exact HO_3.out) hg hat)).2.2) KL20.out)); have n3_ := zaa.mk ((show Kd.C (Kd.int .i64) w24 A23 y167.length y167 from by rw [Ny167.out, KA23.out]; exact Kd.C_drop (m := (x5_2 : Int).toNat) (c := co3) ((Kd.R_reads' (Kd.R_after (ok := (fun _ => True)) (by (with_reducible repeat (first | apply Kd.R_alloc | apply Kd.R_drewN | apply Kd.R_drew)); exact HO_3.out) hg hat)).2.2) KL23.out ((Kd.R_reads' (Kd.R_after (ok := (fun _ => True)) (by (with_reducible repeat (first | apply Kd.R_alloc | apply Kd.R_drewN | apply Kd.R_drew)); exact HO_3.out) hg hat)).2.1))); have n4_ := zaa.mk (ho); clear HO_3; clear HB; clear HR160; clear HR170; clear HO166; have HO_3 := n0_; have HB := n1_; have HR160 := n2_; have HR170 := n3_; have HO173 := n4_; clear n0_ n1_ n2_ n3_ n4_; clear ho hb hg hat)); try go_wp2_with (first | ((with_reducible refine zaw (b := .append) (xs := #[.tmp 33, .tmp 36]) rfl ?_); at_builtin; refine Kd.R_append_rows (Kd.int .i64) (w0 := w) w.heap.size rfl (.tmp 33) (.tmp 36) 29 3 (.int .i64 0) 8 rfl Tryd.underlying29 info3 rfl (by decide) (by omega) (.slice none 0 0) ([] : List Int) y157 _ _ _ (fun k_ => some k_ ≠ (.slice (some ad156) x3_1.length co3 : Value).ownBlock) (fun _ => False) rfl rfl ?aO ?aR (fun _ _ h => h) (fun _ h => h.elim) ?aF ?aB ?aS ?aL ?_; (case aR => exact HR160.out); (case aB => exact (by repeat (first | exact HB.out | apply zac | apply zab | apply zad))); (case aF => exact (fun k_ hk => Kd.fresh' (Kd.R_lt (by (with_reducible repeat (first | apply Kd.R_alloc | apply Kd.R_drewN | apply Kd.R_drew)); exact HO_3.out)) k_ hk)); (case aO => exact ((Kd.R_nil _ _ _ _ (fun k_ => some k_ ≠ (.slice (some ad156) x3_1.length co3 : Value).ownBlock)))); (case aS => exact (zam (by repeat (first | exact HB.out | apply zac | apply zab | apply zad)))); (case aL => have := LMc15.out; omega); intro v162 w21 ho hb hg hat; rw [← Ny161.out] at ho; have n0_ := zaa.mk (Kd.R_after (Kd.R_apart_nil (by (with_reducible repeat (first | apply Kd.R_alloc | apply Kd.R_drewN | apply Kd.R_drew)); exact HO_3.out)) hg hat); have n1_ := zaa.mk (hb); have n2_ := zaa.mk ((show Kd.C (Kd.int .i64) w21 (some ad156) y157.length y157 from by rw [Ny157.out]; exact Kd.C_take (m := (x5_2 : Int).toNat) ((Kd.R_reads' (Kd.R_after (Kd.R_apart_nil (by (with_reducible repeat (first | apply Kd.R_alloc | apply Kd.R_drewN | apply Kd.R_drew)); exact HO_3.out)) hg hat)).2.2) KL20.out)); have n3_ := zaa.mk (ho); clear HO_3; clear HB; clear HR160; have HO_3 := n0_; have HB := n1_; have HR160 := n2_; have HO163 := n3_; clear n0_ n1_ n2_ n3_; clear ho hb hg hat) | ((with_reducible refine zaw (b := .append) (xs := #[.tmp 38, .tmp 40]) rfl ?_); at_builtin; refine Kd.R_append (Kd.int .i64) (w0 := w) w.heap.size rfl (.tmp 38) (.tmp 40) 29 3 (.int .i64 0) 8 rfl Tryd.underlying29 info3 rfl (by decide) (by omega) v162 y161 x4_1 [.int .i64 x4_1] (fun k_ => some k_ ≠ (.slice (some ad156) x3_1.length co3 : Value).ownBlock) (fun _ => False) rfl rfl ?aP (fun _ hk => hk.elim) ?aF ?aO ?aB ?aS ?aL ?_; (case aP => exact rfl); (case aB => exact HB.out); (case aF => exact (fun k_ hk => Kd.fresh' (Kd.R_lt (by (with_reducible repeat (first | apply Kd.R_alloc | apply Kd.R_drewN | apply Kd.R_drew)); exact HO_3.out)) k_ hk)); (case aO => exact (by (with_reducible repeat (first | apply Kd.R_alloc | apply Kd.R_drewN | apply Kd.R_drew)); exact HO163.out)); (case aS => exact (zam HB.out)); (case aL => have := LMc16.out; omega); intro v165 w22 ho hb hg hat; rw [← Ny164.out] at ho; have n0_ := zaa.mk (Kd.R_after (ok := (fun _ => True)) (by (with_reducible repeat (first | apply Kd.R_alloc | apply Kd.R_drewN | apply Kd.R_drew)); exact HO_3.out) hg hat); have n1_ := zaa.mk (hb); have n2_ := zaa.mk ((show Kd.C (Kd.int .i64) w22 (some ad156) y157.length y157 from by rw [Ny157.out]; exact Kd.C_take (m := (x5_2 : Int).toNat) ((Kd.R_reads' (Kd.R_after (ok := (fun _ => True)) (by (with_reducible repeat (first | apply Kd.R_alloc | apply Kd.R_drewN | apply Kd.R_drew)); exact HO_3.out) hg hat)).2.2) KL20.out)); have n3_ := zaa.mk (ho); clear HO_3; clear HB; clear HR160; clear HO163; have HO_3 := n0_; have HB := n1_; have HR160 := n2_; have HO166 := n3_; clear n0_ n1_ n2_ n3_; clear ho hb hg hat; have q23 : (x5_2 : Int) ≤ ((x3_1.length : Int) : Int) := of_decide_eq_true (by first | (with_reducible assumption) | assumption); obtain ⟨i023, hi023, _, hsz23, _⟩ := info_parts info3; have hroom23 : x3_1.length ≤ co3 := (Kd.R_reads' HO_3.out).2.1; have hC23 : Kd.C (Kd.int .i64) _ (some ad156) x3_1.length x3_1 := (Kd.R_reads' HO_3.out).2.2; have q023 : (0 : Int) ≤ (x5_2 : Int) := of_decide_eq_true (by first | (with_reducible assumption) | assumption); have hcut23 := cut_from (P := Tryd.prog) 29 3 .i64 Tryd.underlying29 hi023 1 hsz23 (some ad156) x3_1.length co3 x5_2 q023 q23; have hr23 := Kd.C_drop (m := (x5_2 : Int).toNat) (c := co3) hC23 (by omega) hroom23; obtain ⟨A23, hA23⟩ : ∃ A1, A1 = (if co3 = (x5_2 : Int).toNat then (some ad156) else ((some ad156) : Option Addr).map (·.add ((x5_2 : Int).toNat * 1))) := ⟨_, rfl⟩; obtain ⟨c23, hc23⟩ : ∃ c1, c1 = co3 - (x5_2 : Int).toNat := ⟨_, rfl⟩; have hy23 : y167.length = x3_1.length - (x5_2 : Int).toNat := (by rw [Ny167.out, List.length_drop] <;> omega); rw [show (x3_1).drop (x5_2 : Int).toNat = y167 from Ny167.out.symm] at hr23; replace hr23 : Kd.C (Kd.int .i64) _ A23 y167.length y167 := (by rw [hA23]; exact hr23); rw [← hy23, ← hA23, ← hc23] at hcut23; have HR170 := zaa.mk hr23; have HC170 := zaa.mk (show y167.length ≤ c23 from by rw [hy23, hc23]; exact Nat.sub_le_sub_right hroom23 _); clear hr23 hC23 hroom23 hi023 hsz23 hc23; have KY23 := zaa.mk hy23; have KA23 := zaa.mk hA23; clear hy23 hA23; have KL23 := zaa.mk (show (x5_2 : Int).toNat ≤ x3_1.length from by omega); replace q23 := eq_true q23) | ((with_reducible refine zaw (b := .append) (xs := #[.tmp 42, .tmp 45]) rfl ?_); at_builtin; refine Kd.R_append_rows (Kd.int .i64) (w0 := w) w.heap.size rfl (.tmp 42) (.tmp 45) 29 3 (.int .i64 0) 8 rfl Tryd.underlying29 info3 rfl (by decide) (by omega) v165 y164 y167 _ _ _ (fun k_ => some k_ ≠ (.slice (some ad156) x3_1.length co3 : Value).ownBlock) (fun _ => False) rfl rfl ?aO ?aR (fun _ _ h => h) (fun _ h => h.elim) ?aF ?aB ?aS ?aL ?_; (case aR => exact HR170.out); (case aB => exact HB.out); (case aF => exact (fun k_ hk => Kd.fresh' (Kd.R_lt (by (with_reducible repeat (first | apply Kd.R_alloc | apply Kd.R_drewN | apply Kd.R_drew)); exact HO_3.out)) k_ hk)); (case aO => exact (by (with_reducible repeat (first | apply Kd.R_alloc | apply Kd.R_drewN | apply Kd.R_drew)); exact HO166.out)); (case aS => exact (zam HB.out)); (case aL => have := LMc19.out; omega); intro v172 w24 ho hb hg hat; rw [← Ny171.out] at ho; have n0_ := zaa.mk (Kd.R_after (ok := (fun _ => True)) (by (with_reducible repeat (first | apply Kd.R_alloc | apply Kd.R_drewN | apply Kd.R_drew)); exact HO_3.out) hg hat); have n1_ := zaa.mk (hb); have n2_ := zaa.mk ((show Kd.C (Kd.int .i64) w24 (some ad156) y157.length y157 from by rw [Ny157.out]; exact Kd.C_take (m := (x5_2 : Int).toNat) ((Kd.R_reads' (Kd.R_after (ok := (fun _ => True)) (by (with_reducible repeat (first | apply Kd.R_alloc | apply Kd.R_drewN | apply Kd.R_drew)); exact HO_3.out) hg hat)).2.2) KL20.out)); have n3_ := zaa.mk ((show Kd.C (Kd.int .i64) w24 A23 y167.length y167 from by rw [Ny167.out, KA23.out]; exact Kd.C_drop (m := (x5_2 : Int).toNat) (c := co3) ((Kd.R_reads' (Kd.R_after (ok := (fun _ => True)) (by (with_reducible repeat (first | apply Kd.R_alloc | apply Kd.R_drewN | apply Kd.R_drew)); exact HO_3.out) hg hat)).2.2) KL23.out ((Kd.R_reads' (Kd.R_after (ok := (fun _ => True)) (by (with_reducible repeat (first | apply Kd.R_alloc | apply Kd.R_drewN | apply Kd.R_drew)); exact HO_3.out) hg hat)).2.1))); have n4_ := zaa.mk (ho); clear HO_3; clear HB; clear HR160; clear HR170; clear HO166; have HO_3 := n0_; have HB := n1_; have HR160 := n2_; have HR170 := n3_; have HO173 := n4_; clear n0_ n1_ n2_ n3_ n4_; clear ho hb hg hat)))
                   go_roundg k2
                   case measure => have := HK1.out; have := HK2.out; omega
                   case rel => exact ⟨(y171), (wrap64 (x4_1 - 1)), rfl, H', ⟨by have := HK1.out; have := HK2.out; omega⟩, ⟨by (with_reducible repeat (first | apply Kd.R_alloc | apply Kd.R_drewN | apply Kd.R_drew)); exact Kd.R_mono HO173.out (fun _ hk => trivial)⟩, ⟨by repeat (first | exact HB.out | apply zac | apply zab | apply zad)⟩⟩
                  ·rw [if_neg c19] at H
                   exact absurd H (by simp)
                 ·rw [if_neg c16] at H
                  exact absurd H (by simp)
                ·rw [if_neg c15] at H
                 exact absurd H (by simp)
               ·rw [if_neg c14] at H
                exact absurd H (by simp)
              ·rw [if_neg c13] at H
               exact absurd H (by simp)
            ·rw [if_neg c11] at H
             exact absurd H (by simp)
           ·rw [if_neg c10] at H
            exact absurd H (by simp)
          ·rw [if_neg c9] at H
           exact absurd H (by simp)
         ·rw [if_neg c8] at H
          exact absurd H (by simp)
        ·rw [if_neg c7] at H
         exact absurd H (by simp)
       ·rw [if_neg c6] at H
        exact absurd H (by simp)
      ·rw [if_neg c4] at H
       have c4b0 : decide (0 < x5_2) = false := decide_eq_false c4
       clear c4
       by_cases c25 : 0 ≤ x5_2
       ·rw [if_pos c25] at H
        have c25b0 := eq_true c25
        have c25b1 : decide (0 ≤ x5_2) = true := decide_eq_true c25
        clear c25
        by_cases c26 : x5_2 ≤ (x3_1.length : Int)
        ·rw [if_pos c26] at H
         have c26b0 := eq_true c26
         have c26b1 : decide (x5_2 ≤ (x3_1.length : Int)) = true := decide_eq_true c26
         clear c26
         obtain ⟨y174, hy174⟩ : ∃ y_ : List Int, y_ = (x3_1.take (x5_2 : Int).toNat) := ⟨_, rfl⟩
         replace H : (if ([] : List Int).length + y174.length < 17592186044416 then ((some (([] : List Int) ++ y174 : List Int)).bind fun y178 => (if y178.length < 17592186044416 then ((some (y178 ++ [x4_1] : List Int)).bind fun y181 => ((some (x3_1.drop (x5_2 : Int).toNat : List Int)).bind fun y184 => (if y181.length + y184.length < 17592186044416 then (zai.l0 k2 a0 (y181 ++ y184) (wrap64 (x4_1 - 1))) else (none)))) else (none))) else (none)) = some r := by first | (rw [hy174]; with_reducible exact H) | (have H2_ := (Option.bind_some _ _).symm.trans H; rw [hy174]; with_reducible exact H2_) | (have H2_ := (Option.bind_some _ _).symm.trans H; with_reducible exact H2_) | with_reducible exact H | (rw [hy174]; exact H) | exact H
         have Ny174 := zaa.mk hy174
         clear hy174
         by_cases c27 : ([] : List Int).length + y174.length < 17592186044416
         ·rw [if_pos c27] at H
          have LMc27 := zaa.mk c27
          clear c27
          obtain ⟨y178, hy178⟩ : ∃ y_ : List Int, y_ = (([] : List Int) ++ y174) := ⟨_, rfl⟩
          replace H : (if y178.length < 17592186044416 then ((some (y178 ++ [x4_1] : List Int)).bind fun y181 => ((some (x3_1.drop (x5_2 : Int).toNat : List Int)).bind fun y184 => (if y181.length + y184.length < 17592186044416 then (zai.l0 k2 a0 (y181 ++ y184) (wrap64 (x4_1 - 1))) else (none)))) else (none)) = some r := by first | (rw [hy178]; with_reducible exact H) | (have H2_ := (Option.bind_some _ _).symm.trans H; rw [hy178]; with_reducible exact H2_) | (have H2_ := (Option.bind_some _ _).symm.trans H; with_reducible exact H2_) | with_reducible exact H | (rw [hy178]; exact H) | exact H
          have Ny178 := zaa.mk hy178
          clear hy178
          by_cases c28 : y178.length < 17592186044416
          ·rw [if_pos c28] at H
           have LMc28 := zaa.mk c28
           clear c28
           obtain ⟨y181, hy181⟩ : ∃ y_ : List Int, y_ = (y178 ++ [x4_1]) := ⟨_, rfl⟩
           replace H : ((some (x3_1.drop (x5_2 : Int).toNat : List Int)).bind fun y184 => (if y181.length + y184.length < 17592186044416 then (zai.l0 k2 a0 (y181 ++ y184) (wrap64 (x4_1 - 1))) else (none))) = some r := by first | (rw [hy181]; with_reducible exact H) | (have H2_ := (Option.bind_some _ _).symm.trans H; rw [hy181]; with_reducible exact H2_) | (have H2_ := (Option.bind_some _ _).symm.trans H; with_reducible exact H2_) | with_reducible exact H | (rw [hy181]; exact H) | exact H
           have Ny181 := zaa.mk hy181
           clear hy181
           have c29b0 := eq_true (of_decide_eq_true (by assumption) : 0 ≤ x5_2)
           have c30b0 := eq_true (of_decide_eq_true (by assumption) : x5_2 ≤ (x3_1.length : Int))
           obtain ⟨y184, hy184⟩ : ∃ y_ : List Int, y_ = (x3_1.drop (x5_2 : Int).toNat) := ⟨_, rfl⟩
           replace H : (if y181.length + y184.length < 17592186044416 then (zai.l0 k2 a0 (y181 ++ y184) (wrap64 (x4_1 - 1))) else (none)) = some r := by first | (rw [hy184]; with_reducible exact H) | (have H2_ := (Option.bind_some _ _).symm.trans H; rw [hy184]; with_reducible exact H2_) | (have H2_ := (Option.bind_some _ _).symm.trans H; with_reducible exact H2_) | with_reducible exact H | (rw [hy184]; exact H) | exact H
           have Ny184 := zaa.mk hy184
           clear hy184
           by_cases c31 : y181.length + y184.length < 17592186044416
           ·rw [if_pos c31] at H
            have LMc31 := zaa.mk c31
            clear c31
            obtain ⟨y188, hy188⟩ : ∃ y_ : List Int, y_ = (y181 ++ y184) := ⟨_, rfl⟩
            replace H : (zai.l0 k2 a0 y188 (wrap64 (x4_1 - 1))) = some r := by first | (rw [hy188]; with_reducible exact H) | (have H2_ := (Option.bind_some _ _).symm.trans H; rw [hy188]; with_reducible exact H2_) | (have H2_ := (Option.bind_some _ _).symm.trans H; with_reducible exact H2_) | with_reducible exact H | (rw [hy188]; exact H) | exact H
            have Ny188 := zaa.mk hy188
            clear hy188
            have H' := zaa.mk H
            clear H
            have q32 : (x5_2 : Int) ≤ ((x3_1.length : Int) : Int) := of_decide_eq_true (by assumption)
            obtain ⟨i032, hi032, _, hsz32, _⟩ := info_parts info3
            have hroom32 : x3_1.length ≤ co3 := (Kd.R_reads' HO_3.out).2.1
            have hC32 : Kd.C (Kd.int .i64) _ Ao3 x3_1.length x3_1 := (Kd.R_reads' HO_3.out).2.2
            have hcut32 := cut_to (P := Tryd.prog) 29 3 .i64 Tryd.underlying29 hi032 Ao3 x3_1.length co3 x5_2 (of_decide_eq_true (by first | (with_reducible assumption) | assumption)) q32 hroom32
            have hr32 := Kd.C_take (m := (x5_2 : Int).toNat) hC32 (by omega)
            have hy32 : y174.length = (x5_2 : Int).toNat := (by rw [Ny174.out, List.length_take]; omega)
            rw [← Ny174.out] at hr32
            rw [← hy32] at hcut32
            have HR177 := zaa.mk hr32
            have HC177 := zaa.mk (show y174.length ≤ co3 from by omega)
            clear hr32 hC32 hroom32 hi032 hsz32
            have KY32 := zaa.mk hy32
            clear hy32
            have KL32 := zaa.mk (show (x5_2 : Int).toNat ≤ x3_1.length from by omega)
            replace q32 := eq_true q32
            go_wp2
            repeat (go_quiet (first | ((with_reducible refine zaw (b := .append) (xs := #[.tmp 33, .tmp 36]) rfl ?_); at_builtin; refine Kd.R_append_rows (Kd.int .i64) (w0 := w) w.heap.size rfl (.tmp 33) (.tmp 36) 29 3 (.int .i64 0) 8 rfl Tryd.underlying29 info3 rfl (by decide) (by omega) (.slice none 0 0) ([] : List Int) y174 _ _ _ (fun k_ => some k_ ≠ (.slice Ao3 x3_1.length co3 : Value).ownBlock) (fun _ => False) rfl rfl ?aO ?aR (fun _ _ h => h) (fun _ h => h.elim) ?aF ?aB ?aS ?aL ?_; (case aR => exact HR177.out); (case aB => exact (by repeat (first | exact HB.out | apply zac | apply zab | apply zad))); (case aF => exact (fun k_ hk => Kd.fresh' (Kd.R_lt (by (with_reducible repeat (first | apply Kd.R_alloc | apply Kd.R_drewN | apply Kd.R_drew)); exact HO_3.out)) k_ hk)); (case aO => exact ((Kd.R_nil _ _ _ _ (fun k_ => some k_ ≠ (.slice Ao3 x3_1.length co3 : Value).ownBlock)))); (case aS => exact (zam (by repeat (first | exact HB.out | apply zac | apply zab | apply zad)))); (case aL => have := LMc27.out; omega); intro v179 w33 ho hb hg hat; rw [← Ny178.out] at ho; have n0_ := zaa.mk (Kd.R_after (Kd.R_apart_nil (by (with_reducible repeat (first | apply Kd.R_alloc | apply Kd.R_drewN | apply Kd.R_drew)); exact HO_3.out)) hg hat); have n1_ := zaa.mk (hb); have n2_ := zaa.mk ((show Kd.C (Kd.int .i64) w33 Ao3 y174.length y174 from by rw [Ny174.out]; exact Kd.C_take (m := (x5_2 : Int).toNat) ((Kd.R_reads' (Kd.R_after (Kd.R_apart_nil (by (with_reducible repeat (first | apply Kd.R_alloc | apply Kd.R_drewN | apply Kd.R_drew)); exact HO_3.out)) hg hat)).2.2) KL32.out)); have n3_ := zaa.mk (ho); clear HO_3; clear HB; clear HR177; have HO_3 := n0_; have HB := n1_; have HR177 := n2_; have HO180 := n3_; clear n0_ n1_ n2_ n3_; clear ho hb hg hat) | ((with_reducible refine zaw (b := .append) (xs := #[.tmp 38, .tmp 40]) rfl ?_); at_builtin; refine Kd.R_append (Kd.int .i64) (w0 := w) w.heap.size rfl (.tmp 38) (.tmp 40) 29 3 (.int .i64 0) 8 rfl Tryd.underlying29 info3 rfl (by decide) (by omega) v179 y178 x4_1 [.int .i64 x4_1] (fun k_ => some k_ ≠ (.slice Ao3 x3_1.length co3 : Value).ownBlock) (fun _ => False) rfl rfl ?aP (fun _ hk => hk.elim) ?aF ?aO ?aB ?aS ?aL ?_; (case aP => exact rfl); (case aB => exact (by repeat (first | exact HB.out | apply zac | apply zab | apply zad))); (case aF => exact (fun k_ hk => Kd.fresh' (Kd.R_lt (by (with_reducible repeat (first | apply Kd.R_alloc | apply Kd.R_drewN | apply Kd.R_drew)); exact HO_3.out)) k_ hk)); (case aO => exact (by (with_reducible repeat (first | apply Kd.R_alloc | apply Kd.R_drewN | apply Kd.R_drew)); exact HO180.out)); (case aS => exact (zam (by repeat (first | exact HB.out | apply zac | apply zab | apply zad)))); (case aL => have := LMc28.out; omega); intro v182 w34 ho hb hg hat; rw [← Ny181.out] at ho; have n0_ := zaa.mk (Kd.R_after (ok := (fun _ => True)) (by (with_reducible repeat (first | apply Kd.R_alloc | apply Kd.R_drewN | apply Kd.R_drew)); exact HO_3.out) hg hat); have n1_ := zaa.mk (hb); have n2_ := zaa.mk ((show Kd.C (Kd.int .i64) w34 Ao3 y174.length y174 from by rw [Ny174.out]; exact Kd.C_take (m := (x5_2 : Int).toNat) ((Kd.R_reads' (Kd.R_after (ok := (fun _ => True)) (by (with_reducible repeat (first | apply Kd.R_alloc | apply Kd.R_drewN | apply Kd.R_drew)); exact HO_3.out) hg hat)).2.2) KL32.out)); have n3_ := zaa.mk (ho); clear HO_3; clear HB; clear HR177; clear HO180; have HO_3 := n0_; have HB := n1_; have HR177 := n2_; have HO183 := n3_; clear n0_ n1_ n2_ n3_; clear ho hb hg hat; have q35 : (x5_2 : Int) ≤ ((x3_1.length : Int) : Int) := of_decide_eq_true (by first | (with_reducible assumption) | assumption); obtain ⟨i035, hi035, _, hsz35, _⟩ := info_parts info3; have hroom35 : x3_1.length ≤ co3 := (Kd.R_reads' HO_3.out).2.1; have hC35 : Kd.C (Kd.int .i64) _ Ao3 x3_1.length x3_1 := (Kd.R_reads' HO_3.out).2.2; have q035 : (0 : Int) ≤ (x5_2 : Int) := of_decide_eq_true (by first | (with_reducible assumption) | assumption); have hcut35 := cut_from (P := Tryd.prog) 29 3 .i64 Tryd.underlying29 hi035 1 hsz35 Ao3 x3_1.length co3 x5_2 q035 q35; have hr35 := Kd.C_drop (m := (x5_2 : Int).toNat) (c := co3) hC35 (by omega) hroom35; obtain ⟨A35, hA35⟩ : ∃ A1, A1 = (if co3 = (x5_2 : Int).toNat then Ao3 else (Ao3 : Option Addr).map (·.add ((x5_2 : Int).toNat * 1))) := ⟨_, rfl⟩; obtain ⟨c35, hc35⟩ : ∃ c1, c1 = co3 - (x5_2 : Int).toNat := ⟨_, rfl⟩; have hy35 : y184.length = x3_1.length - (x5_2 : Int).toNat := (by rw [Ny184.out, List.length_drop] <;> omega); rw [show (x3_1).drop (x5_2 : Int).toNat = y184 from Ny184.out.symm] at hr35; replace hr35 : Kd.C (Kd.int .i64) _ A35 y184.length y184 := (by rw [hA35]; exact hr35); rw [← hy35, ← hA35, ← hc35] at hcut35; have HR187 := zaa.mk hr35; have HC187 := zaa.mk (show y184.length ≤ c35 from by rw [hy35, hc35]; exact Nat.sub_le_sub_right hroom35 _); clear hr35 hC35 hroom35 hi035 hsz35 hc35; have KY35 := zaa.mk hy35; have KA35 := zaa.mk hA35; clear hy35 hA35; have KL35 := zaa.mk (show (x5_2 : Int).toNat ≤ x3_1.length from by omega); replace q35 := eq_true q35) | ((with_reducible refine zaw (b := .append) (xs := #[.tmp 42, .tmp 45]) rfl ?_); at_builtin; refine Kd.R_append_rows (Kd.int .i64) (w0 := w) w.heap.size rfl (.tmp 42) (.tmp 45) 29 3 (.int .i64 0) 8 rfl Tryd.underlying29 info3 rfl (by decide) (by omega) v182 y181 y184 _ _ _ (fun k_ => some k_ ≠ (.slice Ao3 x3_1.length co3 : Value).ownBlock) (fun _ => False) rfl rfl ?aO ?aR (fun _ _ h => h) (fun _ h => h.elim) ?aF ?aB ?aS ?aL ?_; (case aR => exact HR187.out); (case aB => exact (by repeat (first | exact HB.out | apply zac | apply zab | apply zad))); (case aF => exact (fun k_ hk => Kd.fresh' (Kd.R_lt (by (with_reducible repeat (first | apply Kd.R_alloc | apply Kd.R_drewN | apply Kd.R_drew)); exact HO_3.out)) k_ hk)); (case aO => exact (by (with_reducible repeat (first | apply Kd.R_alloc | apply Kd.R_drewN | apply Kd.R_drew)); exact HO183.out)); (case aS => exact (zam (by repeat (first | exact HB.out | apply zac | apply zab | apply zad)))); (case aL => have := LMc31.out; omega); intro v189 w36 ho hb hg hat; rw [← Ny188.out] at ho; have n0_ := zaa.mk (Kd.R_after (ok := (fun _ => True)) (by (with_reducible repeat (first | apply Kd.R_alloc | apply Kd.R_drewN | apply Kd.R_drew)); exact HO_3.out) hg hat); have n1_ := zaa.mk (hb); have n2_ := zaa.mk ((show Kd.C (Kd.int .i64) w36 Ao3 y174.length y174 from by rw [Ny174.out]; exact Kd.C_take (m := (x5_2 : Int).toNat) ((Kd.R_reads' (Kd.R_after (ok := (fun _ => True)) (by (with_reducible repeat (first | apply Kd.R_alloc | apply Kd.R_drewN | apply Kd.R_drew)); exact HO_3.out) hg hat)).2.2) KL32.out)); have n3_ := zaa.mk ((show Kd.C (Kd.int .i64) w36 A35 y184.length y184 from by rw [Ny184.out, KA35.out]; exact Kd.C_drop (m := (x5_2 : Int).toNat) (c := co3) ((Kd.R_reads' (Kd.R_after (ok := (fun _ => True)) (by (with_reducible repeat (first | apply Kd.R_alloc | apply Kd.R_drewN | apply Kd.R_drew)); exact HO_3.out) hg hat)).2.2) KL35.out ((Kd.R_reads' (Kd.R_after (ok := (fun _ => True)) (by (with_reducible repeat (first | apply Kd.R_alloc | apply Kd.R_drewN | apply Kd.R_drew)); exact HO_3.out) hg hat)).2.1))); have n4_ := zaa.mk (ho); clear HO_3; clear HB; clear HR177; clear HR187; clear HO183; have HO_3 := n0_; have HB := n1_; have HR177 := n2_; have HR187 := n3_; have HO190 := n4_; clear n0_ n1_ n2_ n3_ n4_; clear ho hb hg hat)); try go_wp2_with (first | ((with_reducible refine zaw (b := .append) (xs := #[.tmp 33, .tmp 36]) rfl ?_); at_builtin; refine Kd.R_append_rows (Kd.int .i64) (w0 := w) w.heap.size rfl (.tmp 33) (.tmp 36) 29 3 (.int .i64 0) 8 rfl Tryd.underlying29 info3 rfl (by decide) (by omega) (.slice none 0 0) ([] : List Int) y174 _ _ _ (fun k_ => some k_ ≠ (.slice Ao3 x3_1.length co3 : Value).ownBlock) (fun _ => False) rfl rfl ?aO ?aR (fun _ _ h => h) (fun _ h => h.elim) ?aF ?aB ?aS ?aL ?_; (case aR => exact HR177.out); (case aB => exact (by repeat (first | exact HB.out | apply zac | apply zab | apply zad))); (case aF => exact (fun k_ hk => Kd.fresh' (Kd.R_lt (by (with_reducible repeat (first | apply Kd.R_alloc | apply Kd.R_drewN | apply Kd.R_drew)); exact HO_3.out)) k_ hk)); (case aO => exact ((Kd.R_nil _ _ _ _ (fun k_ => some k_ ≠ (.slice Ao3 x3_1.length co3 : Value).ownBlock)))); (case aS => exact (zam (by repeat (first | exact HB.out | apply zac | apply zab | apply zad)))); (case aL => have := LMc27.out; omega); intro v179 w33 ho hb hg hat; rw [← Ny178.out] at ho; have n0_ := zaa.mk (Kd.R_after (Kd.R_apart_nil (by (with_reducible repeat (first | apply Kd.R_alloc | apply Kd.R_drewN | apply Kd.R_drew)); exact HO_3.out)) hg hat); have n1_ := zaa.mk (hb); have n2_ := zaa.mk ((show Kd.C (Kd.int .i64) w33 Ao3 y174.length y174 from by rw [Ny174.out]; exact Kd.C_take (m := (x5_2 : Int).toNat) ((Kd.R_reads' (Kd.R_after (Kd.R_apart_nil (by (with_reducible repeat (first | apply Kd.R_alloc | apply Kd.R_drewN | apply Kd.R_drew)); exact HO_3.out)) hg hat)).2.2) KL32.out)); have n3_ := zaa.mk (ho); clear HO_3; clear HB; clear HR177; have HO_3 := n0_; have HB := n1_; have HR177 := n2_; have HO180 := n3_; clear n0_ n1_ n2_ n3_; clear ho hb hg hat) | ((with_reducible refine zaw (b := .append) (xs := #[.tmp 38, .tmp 40]) rfl ?_); at_builtin; refine Kd.R_append (Kd.int .i64) (w0 := w) w.heap.size rfl (.tmp 38) (.tmp 40) 29 3 (.int .i64 0) 8 rfl Tryd.underlying29 info3 rfl (by decide) (by omega) v179 y178 x4_1 [.int .i64 x4_1] (fun k_ => some k_ ≠ (.slice Ao3 x3_1.length co3 : Value).ownBlock) (fun _ => False) rfl rfl ?aP (fun _ hk => hk.elim) ?aF ?aO ?aB ?aS ?aL ?_; (case aP => exact rfl); (case aB => exact HB.out); (case aF => exact (fun k_ hk => Kd.fresh' (Kd.R_lt (by (with_reducible repeat (first | apply Kd.R_alloc | apply Kd.R_drewN | apply Kd.R_drew)); exact HO_3.out)) k_ hk)); (case aO => exact (by (with_reducible repeat (first | apply Kd.R_alloc | apply Kd.R_drewN | apply Kd.R_drew)); exact HO180.out)); (case aS => exact (zam HB.out)); (case aL => have := LMc28.out; omega); intro v182 w34 ho hb hg hat; rw [← Ny181.out] at ho; have n0_ := zaa.mk (Kd.R_after (ok := (fun _ => True)) (by (with_reducible repeat (first | apply Kd.R_alloc | apply Kd.R_drewN | apply Kd.R_drew)); exact HO_3.out) hg hat); have n1_ := zaa.mk (hb); have n2_ := zaa.mk ((show Kd.C (Kd.int .i64) w34 Ao3 y174.length y174 from by rw [Ny174.out]; exact Kd.C_take (m := (x5_2 : Int).toNat) ((Kd.R_reads' (Kd.R_after (ok := (fun _ => True)) (by (with_reducible repeat (first | apply Kd.R_alloc | apply Kd.R_drewN | apply Kd.R_drew)); exact HO_3.out) hg hat)).2.2) KL32.out)); have n3_ := zaa.mk (ho); clear HO_3; clear HB; clear HR177; clear HO180; have HO_3 := n0_; have HB := n1_; have HR177 := n2_; have HO183 := n3_; clear n0_ n1_ n2_ n3_; clear ho hb hg hat; have q35 : (x5_2 : Int) ≤ ((x3_1.length : Int) : Int) := of_decide_eq_true (by first | (with_reducible assumption) | assumption); obtain ⟨i035, hi035, _, hsz35, _⟩ := info_parts info3; have hroom35 : x3_1.length ≤ co3 := (Kd.R_reads' HO_3.out).2.1; have hC35 : Kd.C (Kd.int .i64) _ Ao3 x3_1.length x3_1 := (Kd.R_reads' HO_3.out).2.2; have q035 : (0 : Int) ≤ (x5_2 : Int) := of_decide_eq_true (by first | (with_reducible assumption) | assumption); have hcut35 := cut_from (P := Tryd.prog) 29 3 .i64 Tryd.underlying29 hi035 1 hsz35 Ao3 x3_1.length co3 x5_2 q035 q35; have hr35 := Kd.C_drop (m := (x5_2 : Int).toNat) (c := co3) hC35 (by omega) hroom35; obtain ⟨A35, hA35⟩ : ∃ A1, A1 = (if co3 = (x5_2 : Int).toNat then Ao3 else (Ao3 : Option Addr).map (·.add ((x5_2 : Int).toNat * 1))) := ⟨_, rfl⟩; obtain ⟨c35, hc35⟩ : ∃ c1, c1 = co3 - (x5_2 : Int).toNat := ⟨_, rfl⟩; have hy35 : y184.length = x3_1.length - (x5_2 : Int).toNat := (by rw [Ny184.out, List.length_drop] <;> omega); rw [show (x3_1).drop (x5_2 : Int).toNat = y184 from Ny184.out.symm] at hr35; replace hr35 : Kd.C (Kd.int .i64) _ A35 y184.length y184 := (by rw [hA35]; exact hr35); rw [← hy35, ← hA35, ← hc35] at hcut35; have HR187 := zaa.mk hr35; have HC187 := zaa.mk (show y184.length ≤ c35 from by rw [hy35, hc35]; exact Nat.sub_le_sub_right hroom35 _); clear hr35 hC35 hroom35 hi035 hsz35 hc35; have KY35 := zaa.mk hy35; have KA35 := zaa.mk hA35; clear hy35 hA35; have KL35 := zaa.mk (show (x5_2 : Int).toNat ≤ x3_1.length from by omega); replace q35 := eq_true q35) | ((with_reducible refine zaw (b := .append) (xs := #[.tmp 42, .tmp 45]) rfl ?_); at_builtin; refine Kd.R_append_rows (Kd.int .i64) (w0 := w) w.heap.size rfl (.tmp 42) (.tmp 45) 29 3 (.int .i64 0) 8 rfl Tryd.underlying29 info3 rfl (by decide) (by omega) v182 y181 y184 _ _ _ (fun k_ => some k_ ≠ (.slice Ao3 x3_1.length co3 : Value).ownBlock) (fun _ => False) rfl rfl ?aO ?aR (fun _ _ h => h) (fun _ h => h.elim) ?aF ?aB ?aS ?aL ?_; (case aR => exact HR187.out); (case aB => exact HB.out); (case aF => exact (fun k_ hk => Kd.fresh' (Kd.R_lt (by (with_reducible repeat (first | apply Kd.R_alloc | apply Kd.R_drewN | apply Kd.R_drew)); exact HO_3.out)) k_ hk)); (case aO => exact (by (with_reducible repeat (first | apply Kd.R_alloc | apply Kd.R_drewN | apply Kd.R_drew)); exact HO183.out)); (case aS => exact (zam HB.out)); (case aL => have := LMc31.out; omega); intro v189 w36 ho hb hg hat; rw [← Ny188.out] at ho; have n0_ := zaa.mk (Kd.R_after (ok := (fun _ => True)) (by (with_reducible repeat (first | apply Kd.R_alloc | apply Kd.R_drewN | apply Kd.R_drew)); exact HO_3.out) hg hat); have n1_ := zaa.mk (hb); have n2_ := zaa.mk ((show Kd.C (Kd.int .i64) w36 Ao3 y174.length y174 from by rw [Ny174.out]; exact Kd.C_take (m := (x5_2 : Int).toNat) ((Kd.R_reads' (Kd.R_after (ok := (fun _ => True)) (by (with_reducible repeat (first | apply Kd.R_alloc | apply Kd.R_drewN | apply Kd.R_drew)); exact HO_3.out) hg hat)).2.2) KL32.out)); have n3_ := zaa.mk ((show Kd.C (Kd.int .i64) w36 A35 y184.length y184 from by rw [Ny184.out, KA35.out]; exact Kd.C_drop (m := (x5_2 : Int).toNat) (c := co3) ((Kd.R_reads' (Kd.R_after (ok := (fun _ => True)) (by (with_reducible repeat (first | apply Kd.R_alloc | apply Kd.R_drewN | apply Kd.R_drew)); exact HO_3.out) hg hat)).2.2) KL35.out ((Kd.R_reads' (Kd.R_after (ok := (fun _ => True)) (by (with_reducible repeat (first | apply Kd.R_alloc | apply Kd.R_drewN | apply Kd.R_drew)); exact HO_3.out) hg hat)).2.1))); have n4_ := zaa.mk (ho); clear HO_3; clear HB; clear HR177; clear HR187; clear HO183; have HO_3 := n0_; have HB := n1_; have HR177 := n2_; have HR187 := n3_; have HO190 := n4_; clear n0_ n1_ n2_ n3_ n4_; clear ho hb hg hat)))
            go_roundg k2
            case measure => have := HK1.out; have := HK2.out; omega
            case rel => exact ⟨(y188), (wrap64 (x4_1 - 1)), rfl, H', ⟨by have := HK1.out; have := HK2.out; omega⟩, ⟨by (with_reducible repeat (first | apply Kd.R_alloc | apply Kd.R_drewN | apply Kd.R_drew)); exact Kd.R_mono HO190.out (fun _ hk => trivial)⟩, ⟨by repeat (first | exact HB.out | apply zac | apply zab | apply zad)⟩⟩
           ·rw [if_neg c31] at H
            exact absurd H (by simp)
          ·rw [if_neg c28] at H
           exact absurd H (by simp)
         ·rw [if_neg c27] at H
          exact absurd H (by simp)
        ·rw [if_neg c26] at H
         exact absurd H (by simp)
       ·rw [if_neg c25] at H
        exact absurd H (by simp)
   ·rw [if_neg c2] at H
    have c2b0 : decide (0 ≤ x4_1) = false := decide_eq_false c2
    clear c2
    obtain rfl := Option.some.inj H
    go_wp2
    repeat (go_quiet (fail); try go_wp2)
    go_ret
    exact ⟨_, rfl, by (with_reducible repeat (first | apply Kd.R_alloc | apply Kd.R_drewN | apply Kd.R_drew)); exact HO_3.out, by repeat (first | exact HB.out | apply zac | apply zab | apply zad)⟩
end Go.Proofs.YtdifgiceallpiaaDoor.Hd
end
section
namespace Go.Proofs.YtdifgiceallpiaaDoor.Pure
open Go Go.RowKit Go.Proofs.YtdifgiceallpiaaDoorW.PrintWords Go.Proofs.YtdifgiceallpiaaDoorW.PrintMore Go.Proofs.YtdifgiceallpiaaDoor.P Go.Proofs.YtdifgiceallpiaaDoor.Com Go.Proofs.YtdifgiceallpiaaDoor.Hd Go.Proofs.YtdifgiceallpiaaDoor.Hw Go.Proofs.YtdifgiceallpiaaDoor.Cn Go.Proofs.YtdifgiceallpiaaDoor.Sais
theorem lt_map : ∀ (x y : List UInt8), (x < y) ↔ (x.map UInt8.toNat < y.map UInt8.toNat)
  | [], [] => by simp
  | _ :: _, [] => by simp
  | [], _ :: _ => by simp
  | a :: x, b :: y => by
    rw [List.map_cons, List.map_cons, List.cons_lt_cons_iff, List.cons_lt_cons_iff, lt_map x y, UInt8.lt_iff_toNat_lt, UInt8.toNat_inj]
theorem nb_ext (s : ByteArray) (i : Nat) : ((s.extract i s.size).toList).map UInt8.toNat = (nb s).drop i := by
  rw [ByteArray.toList_eq]
  unfold nb
  rw [← List.map_drop]
  congr 1
  simp [ByteArray.data_extract, Array.toList_extract, List.extract_eq_take_drop]
  try (rw [List.take_of_length_le]; simp)
theorem bl_drop (s : ByteArray) (i q : Nat) : Op.bytesLess ((s.extract i s.size).toList) ((s.extract q s.size).toList) = decide ((nb s).drop i < (nb s).drop q) := by
  rw [bl_lt]
  refine decide_eq_decide.2 ?_
  rw [lt_map, nb_ext, nb_ext]
theorem ins_ev {s : ByteArray} {l : List Nat} {i : Nat} (hs : s.size ≤ 1073741824) (hl : l.length ≤ s.size) (hm : ∀ y ∈ l, y < s.size) (hi : i < s.size) (at_ : Nat) : at_ ≤ l.length → ∀ r : List Int,
    Ev (fun k => zai.l0 k s (iN (l.take (plc (nb s) l i at_) ++ i :: l.drop (plc (nb s) l i at_))) ((i : Int) - 1)) r → Ev (fun k => zai.l1 k s (iN l) (i : Int) (at_ : Int)) r := by
  have hfin : ∀ a, a ≤ l.length → ((iN l).take a).length ≤ 1073741824 := fun a ha => by rw [List.length_take, zb1]; omega
  have hcat : ∀ a, ((([] : List Int) ++ (iN l).take a) ++ [(i : Int)]) ++ (iN l).drop a = iN (l.take a ++ i :: l.drop a) := fun a => by
    unfold iN
    simp [List.map_take, List.map_drop]
  induction at_ with
  | zero =>
    intro _ r h
    refine Ev.step (f := fun k => zai.l0 k s (iN (l.take (plc (nb s) l i 0) ++ i :: l.drop (plc (nb s) l i 0))) ((i : Int) - 1)) (fun k => ?_) h
    simp only [zai.l1]
    rw [if_neg (by omega), if_pos (by omega), if_pos (by omega)]
    simp only [Option.bind_some]
    rw [if_pos (by simp), if_pos (by simp), if_pos (by simp [zb1]; omega), w64 (by omega) (by omega)]
    have := hcat 0
    simp only [Int.toNat_natCast] at this ⊢
    rw [this]
    rfl
  | succ a ih =>
    intro ha r h
    have hrd : rd (iN l) (a : Int) = ((l.getD a 0 : Nat) : Int) := by rw [rd_nat, iN_getD]
    have hlt : l.getD a 0 < s.size := hm _ (by rw [List.getD_eq_getElem?_getD, List.getElem?_eq_getElem (by omega)]; exact List.getElem_mem _)
    have hw : wrap64 (((a + 1 : Nat) : Int) - 1) = (a : Int) := by rw [w64 (by omega) (by omega)]; omega
    unfold plc at h
    by_cases hc : (nb s).drop i < (nb s).drop (l.getD a 0)
    · rw [if_pos hc] at h
      refine Ev.step (f := fun k => zai.l1 k s (iN l) (i : Int) (a : Int)) (fun k => ?_) (ih (by omega) r h)
      simp only [zai.l1]
      rw [hw, hrd]
      rw [if_pos (by omega), if_pos (by omega), if_pos (by rw [zb1]; omega), if_pos (by omega), if_pos (by omega), if_pos (by omega), if_pos (by omega), Int.toNat_natCast, Int.toNat_natCast, bl_drop, if_pos (decide_eq_true hc)]
    · rw [if_neg hc] at h
      refine Ev.step (f := fun k => zai.l0 k s (iN (l.take (a + 1) ++ i :: l.drop (a + 1))) ((i : Int) - 1)) (fun k => ?_) h
      simp only [zai.l1]
      rw [hw, hrd]
      rw [if_pos (by omega), if_pos (by omega), if_pos (by rw [zb1]; omega), if_pos (by omega), if_pos (by omega), if_pos (by omega), if_pos (by omega), Int.toNat_natCast, Int.toNat_natCast, bl_drop, if_neg (by rw [decide_eq_true_eq]; exact hc)]
      rw [if_pos (by omega), if_pos (by rw [zb1]; omega)]
      simp only [Option.bind_some]
      have hn : (((a + 1 : Nat) : Int)).toNat = a + 1 := Int.toNat_natCast _
      have hf := hfin (a + 1) ha
      rw [hn, if_pos (by rw [List.length_nil]; omega), if_pos (by rw [List.nil_append]; omega), if_pos (by rw [List.length_append, List.nil_append, List.length_drop, zb1, List.length_singleton]; omega), hcat, w64 (by omega) (by omega)]
theorem sort_l0 {s : ByteArray} (hs : s.size ≤ 1073741824) (d : Nat) : ∀ j, j + d = s.size → Ev (fun k => zai.l0 k s (iN (inN (nb s) j)) ((s.size : Int) - 1 - (j : Int))) (iN (srtN (nb s))) := by
  induction d with
  | zero =>
    intro j hj
    refine Ev.step (f := fun _ => some _) (fun k => ?_) (Ev.now _)
    simp only [zai.l0]
    rw [if_neg (by omega)]
    unfold srtN
    rw [zas, show j = s.size from by omega]
  | succ d ih =>
    intro j hj
    obtain ⟨i, hi⟩ : ∃ i, s.size - 1 - j = i := ⟨_, rfl⟩
    have I := inN_ok (x := nb s) j (by rw [zas]; omega)
    refine Ev.step (f := fun k => zai.l1 k s (iN (inN (nb s) j)) (i : Int) (((inN (nb s) j).length : Nat) : Int)) (fun k => ?_) ?_
    · simp only [zai.l0]
      rw [if_pos (by omega), zb1, show (s.size : Int) - 1 - (j : Int) = (i : Int) from by omega]
    · refine ins_ev hs (by rw [I.len]; omega) (fun y hy => by have := I.lt y hy; rw [zas] at this; exact this) (by omega) _ (Nat.le_refl _) _ ?_
      have := ih (j + 1) (by omega)
      unfold inN at this
      rw [zas, hi] at this
      rw [show (i : Int) - 1 = (s.size : Int) - 1 - ((j + 1 : Nat) : Int) from by omega]
      exact this
theorem sort_ev {s : ByteArray} (hs : s.size ≤ 1073741824) : Ev (fun k => zai.f k s) (iN (srtN (nb s))) := by
  have := sort_l0 hs s.size 0 (by omega)
  unfold zai.f
  rw [w64 (by omega) (by omega)]
  exact (Ev.congr (fun k => by rw [show (s.size : Int) - 1 - ((0 : Nat) : Int) = (s.size : Int) - 1 from by omega]; rfl) this)
end Go.Proofs.YtdifgiceallpiaaDoor.Pure
end
