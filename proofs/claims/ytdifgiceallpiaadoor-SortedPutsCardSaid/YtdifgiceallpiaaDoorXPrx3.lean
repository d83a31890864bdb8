/- Words of this seat. -/
import Derived.Test.YtdifgiceallpiaaDoorXPrx0
import Derived.Test.YtdifgiceallpiaaDoorXPax0
set_option linter.unusedVariables false
set_option linter.unusedSimpArgs false
set_option linter.unusedSectionVars false
section
-- Laid by this session's driver (wip/tools/myprint.py) over the kit's print program.
namespace Go.Proofs.YtdifgiceallpiaaDoor.Pa
end Go.Proofs.YtdifgiceallpiaaDoor.Pa
namespace Go.Proofs.YtdifgiceallpiaaDoor.Hd
end Go.Proofs.YtdifgiceallpiaaDoor.Hd
namespace Go.Proofs.YtdifgiceallpiaaDoor.Pr
open Go.RowKit YtdifgiceallpiaaDoor.Pa YtdifgiceallpiaaDoor.Hd YtdifgiceallpiaaDoorW.PrintWords YtdifgiceallpiaaDoorW.PrintLast YtdifgiceallpiaaDoorW.PrintMore
attribute [local go_sem] za9 za8 zbi zbj za0 za1 zba zbb   -- for this text's walks alone
mutual
def zaj.j0 : Nat → Int → Bool → Option (ByteArray × Int)
 | 0, _, _ => none
 | k + 1, x0, x10 => if x10 = true then (some ((⟨#[]⟩ : ByteArray), 2)) else (zaj.l0 k x0 ([] : List Int))
def zaj.l0 : Nat → Int → List Int → Option (ByteArray × Int)
 | 0, _, _ => none
 | k + 1, x0, x4 => if x0 ≥ 128 then (if x4.length < 140737488355328 then (zaj.l0 k (wrap64 (Int.tdiv x0 128)) (x4 ++ [(wrap64 (128 + (Int.tmod x0 128))) % 256])) else (none)) else (if x4.length < 140737488355328 then (some (strOfNums (x4 ++ [(x0) % 256]), 0)) else (none))
end
def zaj.f (k : Nat) (a0 : Int) : Option (ByteArray × Int) := if a0 < 0 then (zaj.j0 k a0 true) else (zaj.j0 k a0 (decide (a0 > 4294967295)))
theorem zaj.calls (k : Nat) (a0 : Int) (r1 : ByteArray) (r2 : Int) (w : World) (h : zaj.f k a0 = some (r1, r2)) :
  Calls Tryd.prog 17 #[.int .i64 a0] w fun e w' => e = .returned (.tuple #[.string r1, .int .i64 r2]) ∧ Below w.heap.size w w' := by
 have HB := zaa.mk (Below.refl w.heap.size w)
 have H : (if a0 < 0 then (zaj.j0 k a0 true) else (zaj.j0 k a0 (decide (a0 > 4294967295)))) = some (r1, r2) := h
 clear h
 have HC2 := zaa.mk H
 clear H
 go_enter Tryd.func17, Tryd.ntmps17
 go_upto_region 1 with (fail)
 go_cut [10] (fun v10 wc => ∃ (kq : Nat) (x10_1 : Bool), v10 = .bool x10_1 ∧ zaa (zaj.j0 kq a0 x10_1 = some (r1, r2)) ∧ zaa (kq ≤ k) ∧ zaa (Below w.heap.size w wc))
 case first =>
  have H := HC2.out
  clear HC2
  by_cases c3 : a0 < 0
  ·rw [if_pos c3] at H
   have c3b0 : decide (a0 < 0) = true := decide_eq_true c3
   clear c3
   (first | rw [c3b0] | (simp only [i64_w, i32_w]; rw [c3b0]) | rw [c3b1] | skip)
   have H' := zaa.mk H
   clear H
   go_wp2
   go_meet
   case rel => exact ⟨_, (true), rfl, H', ⟨by first | omega | exact Nat.le_refl _⟩, ⟨by repeat (first | exact HB.out | apply zac | apply zab | apply zad)⟩⟩
  ·rw [if_neg c3] at H
   have c3b0 : decide (a0 < 0) = false := decide_eq_false c3
   clear c3
   (first | rw [c3b0] | (simp only [i64_w, i32_w]; rw [c3b0]) | rw [c3b1] | skip)
   have H' := zaa.mk H
   clear H
   go_wp2
   go_meet
   case rel => exact ⟨_, (decide (a0 > 4294967295)), rfl, H', ⟨by first | omega | exact Nat.le_refl _⟩, ⟨by repeat (first | exact HB.out | apply zac | apply zab | apply zad)⟩⟩
 case rest =>
  clear HC2
  obtain ⟨kq, x10_1, rfl, HA, HJ1, HB⟩ := hcut
  cases kq with
  | zero => exact absurd HA.out (by simp [zaj.j0])
  | succ kj1 =>
   have H := HA.out
   clear HA
   simp only [zaj.j0] at H
   by_cases c4 : x10_1 = true
   ·subst c4
    rw [if_pos rfl] at H; have H1 := H
    clear H
    have H := H1
    clear H1
    simp only [Option.some.injEq, Prod.mk.injEq] at H
    obtain ⟨rfl, rfl⟩ := H
    go_wp2
    go_ret2
    exact ⟨rfl, by repeat (first | exact HB.out | apply zac | apply zab | apply zad)⟩
   ·replace c4 := Bool.eq_false_iff.mpr c4
    subst c4
    rw [if_neg (show ¬ (false = true) by decide)] at H; have H1 := H
    clear H
    have H := H1
    clear H1
    have H' := zaa.mk H
    clear H
    go_wp2
    go_loopg [0, 4] kj1 (fun kq v0 v4 w' => ∃ (x0_2 : Int) (x4_2 : List Int), v0 = .int .i64 x0_2 ∧ zaa (zaj.l0 kq x0_2 x4_2 = some (r1, r2)) ∧ zaa (kq ≤ kj1) ∧ zaa (Kd.R (Kd.int .u8) 5 w' w.heap.size (fun _ => True) v4 x4_2) ∧ zaa (Below w.heap.size w w'))
    case atStart => exact ⟨(a0), (([] : List Int)), rfl, H', ⟨Nat.le_refl _⟩, ⟨by first | exact Kd.R_nil _ _ _ _ _ | exact Kd.N_nil _ _ _ _ _ | exact Kd.V_nil _ _ _ _ _ | exact Kd.Q_nil _ _ _ _ _ | exact Kd.S_nil _ _ _ _ _⟩, ⟨by repeat (first | exact HB.out | apply zac | apply zab | apply zad)⟩⟩
    case round =>
     clear H'
     obtain ⟨x0_2, x4_2, rfl, HA, HK2, HO_4, HB⟩ := hrel
     cases gk with
     | zero => exact absurd HA.out (by simp [zaj.l0])
     | succ k2 =>
      have H := HA.out
      clear HA
      simp only [zaj.l0] at H
      by_cases c5 : x0_2 ≥ 128
      ·rw [if_pos c5] at H
       have c5b0 : decide (128 ≤ x0_2) = true := decide_eq_true c5
       clear c5
       by_cases c6 : x4_2.length < 140737488355328
       ·rw [if_pos c6] at H
        have LMc6 := zaa.mk c6
        clear c6
        obtain ⟨y159, hy159⟩ : ∃ y_ : List Int, y_ = (x4_2 ++ [(wrap64 (128 + (Int.tmod x0_2 128))) % 256]) := ⟨_, rfl⟩
        replace H : (zaj.l0 k2 (wrap64 (Int.tdiv x0_2 128)) y159) = some (r1, r2) := by first | (rw [hy159]; with_reducible exact H) | (have H2_ := (Option.bind_some _ _).symm.trans H; rw [hy159]; with_reducible exact H2_) | (have H2_ := (Option.bind_some _ _).symm.trans H; with_reducible exact H2_) | with_reducible exact H | (rw [hy159]; exact H) | exact H
        have Ny159 := zaa.mk hy159
        clear hy159
        have H' := zaa.mk H
        clear H
        go_wp2_with (first | ((with_reducible refine zaw (b := .append) (xs := #[.tmp 13, .tmp 18]) rfl ?_); at_builtin; refine Kd.R_append (Kd.int .u8) (w0 := w) w.heap.size rfl (.tmp 13) (.tmp 18) 48 5 (.int .u8 0) 1 rfl Tryd.underlying48 info5 rfl (by decide) (by omega) u4 x4_2 ((wrap64 (128 + (Int.tmod x0_2 128))) % 256) [.int .u8 ((wrap64 (128 + (Int.tmod x0_2 128))) % 256)] (fun _ => True) (fun _ => False) rfl rfl ?aP (fun _ hk => hk.elim) ?aF ?aO ?aB ?aS ?aL ?_; (case aP => exact rfl); (case aB => exact HB.out); (case aF => exact (fun _ _ => trivial)); (case aO => exact HO_4.out); (case aS => exact (zam HB.out)); (case aL => have := LMc6.out; omega); intro v160 w7 ho hb hg hat; rw [← Ny159.out] at ho; have n0_ := zaa.mk (hb); have n1_ := zaa.mk (ho); clear HB; clear HO_4; have HB := n0_; have HO161 := n1_; clear n0_ n1_; clear ho hb hg hat))
        go_roundg k2
        case measure => have := HJ1.out; have := HK2.out; omega
        case rel => exact ⟨(wrap64 (Int.tdiv x0_2 128)), (y159), rfl, H', ⟨by have := HJ1.out; have := HK2.out; omega⟩, ⟨by (with_reducible repeat (first | apply Kd.R_alloc | apply Kd.R_drewN | apply Kd.R_drew)); exact HO161.out⟩, ⟨by repeat (first | exact HB.out | apply zac | apply zab | apply zad)⟩⟩
       ·rw [if_neg c6] at H
        exact absurd H (by simp)
      ·rw [if_neg c5] at H
       have c5b0 : decide (128 ≤ x0_2) = false := decide_eq_false c5
       clear c5
       by_cases c8 : x4_2.length < 140737488355328
       ·rw [if_pos c8] at H
        have LMc8 := zaa.mk c8
        clear c8
        obtain ⟨y162, hy162⟩ : ∃ y_ : List Int, y_ = (x4_2 ++ [(x0_2) % 256]) := ⟨_, rfl⟩
        replace H : (some (strOfNums y162, 0)) = some (r1, r2) := by first | (rw [hy162]; with_reducible exact H) | (have H2_ := (Option.bind_some _ _).symm.trans H; rw [hy162]; with_reducible exact H2_) | (have H2_ := (Option.bind_some _ _).symm.trans H; with_reducible exact H2_) | with_reducible exact H | (rw [hy162]; exact H) | exact H
        have Ny162 := zaa.mk hy162
        clear hy162
        simp only [Option.some.injEq, Prod.mk.injEq] at H
        obtain ⟨rfl, rfl⟩ := H
        go_wp2_with (first | ((with_reducible refine zaw (b := .append) (xs := #[.tmp 22, .tmp 25]) rfl ?_); at_builtin; refine Kd.R_append (Kd.int .u8) (w0 := w) w.heap.size rfl (.tmp 22) (.tmp 25) 48 5 (.int .u8 0) 1 rfl Tryd.underlying48 info5 rfl (by decide) (by omega) u4 x4_2 ((x0_2) % 256) [.int .u8 ((x0_2) % 256)] (fun _ => True) (fun _ => False) rfl rfl ?aP (fun _ hk => hk.elim) ?aF ?aO ?aB ?aS ?aL ?_; (case aP => exact rfl); (case aB => exact HB.out); (case aF => exact (fun _ _ => trivial)); (case aO => exact HO_4.out); (case aS => exact (zam HB.out)); (case aL => have := LMc8.out; omega); intro v163 w9 ho hb hg hat; rw [← Ny162.out] at ho; have n0_ := zaa.mk (hb); have n1_ := zaa.mk (ho); clear HB; clear HO_4; have HB := n0_; have HO164 := n1_; clear n0_ n1_; clear ho hb hg hat; have hcv10 := own_string (P := Tryd.prog) Tryd.underlying48 Tryd.underlying5 Tryd.underlying9 (Kd.own_of_R HO164.out)))
        go_ret2
        exact ⟨rfl, by repeat (first | exact HB.out | apply zac | apply zab | apply zad)⟩
       ·rw [if_neg c8] at H
        exact absurd H (by simp)
def zav.l0 : Nat → List Int → Int → Option (List Int)
 | 0, _, _ => none
 | k + 1, x3, x4 => if x4 < (x3.length : Int) then (if 0 ≤ x4 then (zav.l0 k (x3.set (x4 : Int).toNat 1024) (wrap64 (x4 + 1))) else (none)) else (some x3)
def zav.f (k : Nat) (a0 : Int) : Option (List Int) := if 0 ≤ (IntKind.u64.wrap (a0)) then (if 0 ≤ (shl .i64 1 (IntKind.u64.wrap (a0))) then (if (shl .i64 1 (IntKind.u64.wrap (a0)) : Int).toNat ≤ 35184372088832 then (zav.l0 k (List.replicate (shl .i64 1 (IntKind.u64.wrap (a0)) : Int).toNat 0) 0) else (none)) else (none)) else (none)
theorem zav.calls (k : Nat) (a0 : Int) (r : List Int) (w : World) (h : zav.f k a0 = some r) :
  Calls Tryd.prog 34 #[.int .i64 a0] w fun e w' => ∃ v0_ : Value, e = .returned (v0_) ∧ Kd.R (Kd.int .i64) 3 w' w.heap.size (fun _ => True) v0_ r ∧ Below w.heap.size w w' := by
 have HB := zaa.mk (Below.refl w.heap.size w)
 have H : (if 0 ≤ (IntKind.u64.wrap (a0)) then (if 0 ≤ (shl .i64 1 (IntKind.u64.wrap (a0))) then (if (shl .i64 1 (IntKind.u64.wrap (a0)) : Int).toNat ≤ 35184372088832 then (zav.l0 k (List.replicate (shl .i64 1 (IntKind.u64.wrap (a0)) : Int).toNat 0) 0) else (none)) else (none)) else (none)) = some r := h
 clear h
 obtain ⟨ji2, hji2⟩ : ∃ j_ : Int, (IntKind.u64.wrap (a0)) = j_ := ⟨_, rfl⟩
 replace H : (if 0 ≤ (ji2) then (if 0 ≤ (shl .i64 1 (ji2)) then (if (shl .i64 1 (ji2) : Int).toNat ≤ 35184372088832 then (zav.l0 k (List.replicate (shl .i64 1 (ji2) : Int).toNat 0) 0) else (none)) else (none)) else (none)) = some r := by first | (rw [hji2] at H; exact H) | (simp only [hji2] at H ⊢; exact H)
 by_cases c3 : 0 ≤ (ji2)
 ·rw [if_pos c3] at H
  have c3b0 := eq_true c3
  clear c3
  obtain ⟨ji4, hji4⟩ : ∃ j_ : Int, (shl .i64 1 (ji2)) = j_ := ⟨_, rfl⟩
  replace H : (if 0 ≤ (ji4) then (if (ji4 : Int).toNat ≤ 35184372088832 then (zav.l0 k (List.replicate (ji4 : Int).toNat 0) 0) else (none)) else (none)) = some r := by first | (rw [hji4] at H; exact H) | (simp only [hji4] at H ⊢; exact H)
  have hji4_ : (IntKind.i64.wrap (1 * 2 ^ min (ji2).toNat 64)) = ji4 := hji4
  have hji4z : (ji2) ≤ 64 → (IntKind.i64.wrap (1 * 2 ^ (ji2).toNat)) = ji4 := shl_small hji4
  have hji4u : (IntKind.i64.wrap (2 ^ min (ji2).toNat 64)) = ji4 := by have h_ := hji4_; rw [Int.one_mul] at h_; exact h_
  have hji4v : (ji2) ≤ 64 → (IntKind.i64.wrap (2 ^ (ji2).toNat)) = ji4 := fun hle_ => by have h_ := hji4z hle_; rw [Int.one_mul] at h_; exact h_
  have hji4y : (wrap64 (1 * 2 ^ min (ji2).toNat 64)) = ji4 := (i64_w _).symm.trans hji4_
  have hji4x : (ji2) ≤ 64 → (wrap64 (1 * 2 ^ (ji2).toNat)) = ji4 := fun h_ => (i64_w _).symm.trans (hji4z h_)
  by_cases c5 : 0 ≤ (ji4)
  ·rw [if_pos c5] at H
   have c5b0 := eq_true c5
   have c5b1 : decide (0 ≤ (ji4)) = true := decide_eq_true c5
   clear c5
   by_cases c6 : (ji4 : Int).toNat ≤ 35184372088832
   ·rw [if_pos c6] at H
    have c6b0 := eq_true c6
    have c6b1 : decide ((ji4 : Int).toNat ≤ 35184372088832) = true := decide_eq_true c6
    clear c6
    obtain ⟨y165, hy165⟩ : ∃ y_ : List Int, y_ = (List.replicate (ji4 : Int).toNat 0) := ⟨_, rfl⟩
    replace H : (zav.l0 k y165 0) = some r := by first | (rw [hy165]; with_reducible exact H) | (have H2_ := (Option.bind_some _ _).symm.trans H; rw [hy165]; with_reducible exact H2_) | (have H2_ := (Option.bind_some _ _).symm.trans H; with_reducible exact H2_) | with_reducible exact H | (rw [hy165]; exact H) | exact H
    have Ny165 := zaa.mk hy165
    clear hy165
    have H' := zaa.mk H
    clear H
    go_enter Tryd.func34, Tryd.ntmps34
    go_wp2_with (first | ((with_reducible refine zay (N := 8) rfl ?_); refine Kd.R_make (Kd.int .i64) _ 3 rfl (N := 8) rfl 29 _ _ rfl ji4 rfl rfl Tryd.underlying29 (.int .i64 0) 8 info3 rfl (by decide) (by omega) 0 (ok := fun _ => True) (okp := fun _ => True) rfl (fun _ hk => hk) trivial (of_decide_eq_true (by assumption)) (Nat.le_trans (Nat.mul_le_mul_right _ (of_decide_eq_true (by assumption) : ji4.toNat ≤ 35184372088832)) (by omega)) (Below.refl _ _) (Nat.le_refl _) ?_; intro v166 w7 ho8 hb hg_ hnew_; clear hg_ hnew_; (first | rw [← Ny165.out] at ho8 | (simp only [Int.reduceToNat] at ho8; rw [← Ny165.out] at ho8)); have n0_ := zaa.mk (Kd.R_lower ho8 (zam HB.out)); have n1_ := zaa.mk (zaf HB.out hb); clear HB; have HO167 := n0_; have HB := n1_; clear n0_ n1_; clear hb ho8))
    go_loopg [4] k (fun kq v4 w' => ∃ (x3_1 : List Int) (x4_1 : Int), v4 = .int .i64 x4_1 ∧ zaa (zav.l0 kq x3_1 x4_1 = some r) ∧ zaa (kq ≤ k) ∧ zaa (Kd.R (Kd.int .i64) 3 w' w.heap.size (fun _ => True) v166 x3_1) ∧ zaa (Below w.heap.size w w'))
    case atStart => exact ⟨(y165), (0), rfl, H', ⟨Nat.le_refl _⟩, ⟨by (with_reducible repeat (first | apply Kd.R_alloc | apply Kd.R_drewN | apply Kd.R_drew)); exact HO167.out⟩, ⟨by repeat (first | exact HB.out | apply zac | apply zab | apply zad)⟩⟩
    case round =>
     clear H'
     obtain ⟨x3_1, x4_1, rfl, HA, HK1, HO_3, HB⟩ := hrel
     cases gk with
     | zero => exact absurd HA.out (by simp [zav.l0])
     | succ k1 =>
      have H := HA.out
      clear HA
      simp only [zav.l0] at H
      by_cases c9 : x4_1 < (x3_1.length : Int)
      ·rw [if_pos c9] at H
       have c9b0 : decide (x4_1 < (x3_1.length : Int)) = true := decide_eq_true c9
       clear c9
       by_cases c10 : 0 ≤ x4_1
       ·rw [if_pos c10] at H
        have c10b0 : decide (0 ≤ x4_1) = true := decide_eq_true c10
        clear c10
        obtain ⟨y168, hy168⟩ : ∃ y_ : List Int, y_ = (x3_1.set (x4_1 : Int).toNat 1024) := ⟨_, rfl⟩
        replace H : (zav.l0 k1 y168 (wrap64 (x4_1 + 1))) = some r := by first | (rw [hy168]; with_reducible exact H) | (have H2_ := (Option.bind_some _ _).symm.trans H; rw [hy168]; with_reducible exact H2_) | (have H2_ := (Option.bind_some _ _).symm.trans H; with_reducible exact H2_) | with_reducible exact H | (rw [hy168]; exact H) | exact H
        have Ny168 := zaa.mk hy168
        clear hy168
        have H' := zaa.mk H
        clear H
        obtain ⟨Ao12, co12, eo12⟩ := Kd.R_slice HO_3.out
        subst eo12
        have p11 : 0 ≤ (x4_1 : Int) := of_decide_eq_true (by assumption)
        have q11 : (x4_1 : Int) < ((x3_1.length : Int) : Int) := of_decide_eq_true (by assumption)
        obtain ⟨go11, co11, eo11, gb11, gl11, cl11, HG11⟩ := Kd.R_form HO_3.out (by omega)
        (first | cases eo11 | (injection eo11 with ea_ en_ ec_; (first | subst ea_ | (injection ea_ with ea_; subst ea_)); subst ec_; clear en_))
        have GB11 := zaa.mk gb11
        have GG11 := zaa.mk HG11
        clear gb11 gl11 HG11
        obtain ⟨hx11_0, hf11_0⟩ := Kd.R_celln 0 HO_3.out (x4_1 : Int) p11 q11
        replace p11 := eq_true p11
        replace q11 := eq_true q11
        have HP13 := Kd.R_putg HO_3.out (x4_1 : Int) 1024
        go_wp2_with (first | ((with_reducible refine zbx (t := 3) (p := 17) rfl ?_); refine store_event (t := 3) (p := 17) (v := ?vo_w14) (w1 := (wr.setCell ⟨go11, (x4_1 : Int).toNat, none⟩ (.int .i64 1024))) ?hg ?ho ?hn ?hr ?_; (case ho => rfl); (case hg => rfl); (case hn => rfl); (case hr => first | (go_simp; done) | (go_simp; rfl)); intro w14 hw; have hg : wr.grownBy w14 (some go11) := (by rw [hw]; exact HP13.2); have hp_ : Kd.R (Kd.int .i64) 3 w14 w.heap.size (fun _ => True) (.slice (some ⟨go11, 0, none⟩) x3_1.length co12) y168 := (by rw [hw, Ny168.out]; exact HP13.1); clear HP13; have n0_ := zaa.mk (hp_); have n1_ := zaa.mk ((by rw [hw]; exact zat (HB.out) GB11.out : Below w.heap.size w w14)); clear HO_3; clear HB; have HO_3 := n0_; have HB := n1_; clear n0_ n1_; clear hg hw hp_))
        go_roundg k1
        case measure => have := HK1.out; omega
        case rel => exact ⟨(y168), (wrap64 (x4_1 + 1)), rfl, H', ⟨by have := HK1.out; omega⟩, ⟨by (with_reducible repeat (first | apply Kd.R_alloc | apply Kd.R_drewN | apply Kd.R_drew)); exact HO_3.out⟩, ⟨by repeat (first | exact HB.out | apply zac | apply zab | apply zad)⟩⟩
       ·rw [if_neg c10] at H
        exact absurd H (by simp)
      ·rw [if_neg c9] at H
       have c9b0 : decide (x4_1 < (x3_1.length : Int)) = false := decide_eq_false c9
       clear c9
       obtain rfl := Option.some.inj H
       obtain ⟨Ao15, co15, eo15⟩ := Kd.R_slice HO_3.out
       subst eo15
       go_wp2
       go_ret
       exact ⟨_, by first | rfl | (simp [errW_none, errW_some] <;> rfl) | (simp only [← hji2, ← hji4]; first | rfl | (simp [errW_none, errW_some] <;> rfl)) | (simp [*, errW_none, errW_some] <;> rfl), by (with_reducible repeat (first | apply Kd.R_alloc | apply Kd.R_drewN | apply Kd.R_drew)); exact HO_3.out, by repeat (first | exact HB.out | apply zac | apply zab | apply zad)⟩
   ·rw [if_neg c6] at H
    exact absurd H (by simp)
  ·rw [if_neg c5] at H
   exact absurd H (by simp)
 ·rw [if_neg c3] at H
  exact absurd H (by simp)
def zbe.f (a0 : Int) : Option (Bool) := if a0 ≥ 1 then (some (decide (a0 ≤ 2047))) else (some false)
theorem zbe.calls (a0 : Int) (r : Bool) (w : World) (h : zbe.f a0 = some r) :
  Calls Tryd.prog 54 #[.int .i64 a0] w fun e w' => e = .returned (.bool r) ∧ za3 w w' := by
 have H : (if a0 ≥ 1 then (some (decide (a0 ≤ 2047))) else (some false)) = some r := h
 clear h
 by_cases c2 : a0 ≥ 1
 ·rw [if_pos c2] at H
  have c2b0 : decide (1 ≤ a0) = true := decide_eq_true c2
  clear c2
  obtain rfl := Option.some.inj H
  go_enter Tryd.func54, Tryd.ntmps54
  go_wp2
  go_ret
  exact ⟨by first | rfl | (simp; done) | (simp [*]; done), by repeat (first | exact za3.refl _ | apply za3.step)⟩
 ·rw [if_neg c2] at H
  have c2b0 : decide (1 ≤ a0) = false := decide_eq_false c2
  clear c2
  obtain rfl := Option.some.inj H
  go_enter Tryd.func54, Tryd.ntmps54
  go_wp2
  go_ret
  exact ⟨by first | rfl | (simp; done) | (simp [*]; done), by repeat (first | exact za3.refl _ | apply za3.step)⟩
def zbf.f (a0 : Int) (a1 : Bool) : Option (Int × Int) := (zbe.f a0).bind fun t169 => (if t169 = true then (if a1 = true then (some (wrap64 (a0 - (wrap64 (Int.tdiv a0 32))), 0)) else (some (wrap64 (a0 + (wrap64 (Int.tdiv (wrap64 (2048 - a0)) 32))), 0))) else (some (0, 2)))
theorem zbf.calls (a0 : Int) (a1 : Bool) (r1 : Int) (r2 : Int) (w : World) (h : zbf.f a0 a1 = some (r1, r2)) :
  Calls Tryd.prog 35 #[.int .i64 a0, .bool a1] w fun e w' => e = .returned (.tuple #[.int .i64 r1, .int .i64 r2]) ∧ za3 w w' := by
 have H : ((zbe.f a0).bind fun t169 => (if t169 = true then (if a1 = true then (some (wrap64 (a0 - (wrap64 (Int.tdiv a0 32))), 0)) else (some (wrap64 (a0 + (wrap64 (Int.tdiv (wrap64 (2048 - a0)) 32))), 0))) else (some (0, 2)))) = some (r1, r2) := h
 clear h
 replace H := Option.bind_eq_some_iff.mp H
 obtain ⟨t169, A30, H⟩ := H
 have A3 := zaa.mk A30
 clear A30
 by_cases c4 : t169 = true
 ·subst c4
  rw [if_pos rfl] at H; have H1 := H
  clear H
  have H := H1
  clear H1
  by_cases c5 : a1 = true
  ·subst c5
   rw [if_pos rfl] at H; have H1 := H
   clear H
   have H := H1
   clear H1
   simp only [Option.some.injEq, Prod.mk.injEq] at H
   obtain ⟨rfl, rfl⟩ := H
   go_enter Tryd.func35, Tryd.ntmps35
   go_wp2_with (first | ((with_reducible refine zbc (f := 54) rfl ?_); refine zb6 (some 7) rfl rfl Tryd.func54 (by kernel_rfl) rfl #[.int .i64 a0] rfl (by (try simp only [List.map_toArray, List.map_cons, List.map_nil]); first | done | rfl | (simp only [List.length_drop, List.length_take]; rfl)) ?_; (with_reducible refine (zbe.calls a0 true _ A3.out).mono ?_); rintro e w' ⟨rfl, ⟨nd, rfl⟩⟩; refine ⟨_, rfl, ?_⟩))
   go_ret2
   exact ⟨by first | rfl | (simp; done) | (simp [*]; done), by repeat (first | exact za3.refl _ | apply za3.step)⟩
  ·replace c5 := Bool.eq_false_iff.mpr c5
   subst c5
   rw [if_neg (show ¬ (false = true) by decide)] at H; have H1 := H
   clear H
   have H := H1
   clear H1
   simp only [Option.some.injEq, Prod.mk.injEq] at H
   obtain ⟨rfl, rfl⟩ := H
   go_enter Tryd.func35, Tryd.ntmps35
   go_wp2_with (first | ((with_reducible refine zbc (f := 54) rfl ?_); refine zb6 (some 7) rfl rfl Tryd.func54 (by kernel_rfl) rfl #[.int .i64 a0] rfl (by (try simp only [List.map_toArray, List.map_cons, List.map_nil]); first | done | rfl | (simp only [List.length_drop, List.length_take]; rfl)) ?_; (with_reducible refine (zbe.calls a0 true _ A3.out).mono ?_); rintro e w' ⟨rfl, ⟨nd, rfl⟩⟩; refine ⟨_, rfl, ?_⟩))
   go_ret2
   exact ⟨by first | rfl | (simp; done) | (simp [*]; done), by repeat (first | exact za3.refl _ | apply za3.step)⟩
 ·replace c4 := Bool.eq_false_iff.mpr c4
  subst c4
  rw [if_neg (show ¬ (false = true) by decide)] at H; have H1 := H
  clear H
  have H := H1
  clear H1
  simp only [Option.some.injEq, Prod.mk.injEq] at H
  obtain ⟨rfl, rfl⟩ := H
  go_enter Tryd.func35, Tryd.ntmps35
  go_wp2_with (first | ((with_reducible refine zbc (f := 54) rfl ?_); refine zb6 (some 7) rfl rfl Tryd.func54 (by kernel_rfl) rfl #[.int .i64 a0] rfl (by (try simp only [List.map_toArray, List.map_cons, List.map_nil]); first | done | rfl | (simp only [List.length_drop, List.length_take]; rfl)) ?_; (with_reducible refine (zbe.calls a0 false _ A3.out).mono ?_); rintro e w' ⟨rfl, ⟨nd, rfl⟩⟩; refine ⟨_, rfl, ?_⟩))
  go_ret2
  exact ⟨by first | rfl | (simp; done) | (simp [*]; done), by repeat (first | exact za3.refl _ | apply za3.step)⟩
def zaz.l0 : Nat → List Int → Int → Option (Bool)
 | 0, _, _ => none
 | k + 1, x0, x3 => if x3 < (x0.length : Int) then (if 0 ≤ x3 then ((zbe.f (rd x0 x3)).bind fun t171 => (if t171 = true then (zaz.l0 k x0 (wrap64 (x3 + 1))) else (some false))) else (none)) else (some true)
def zaz.f (k : Nat) (l0 : List Int) : Option (Bool) := zaz.l0 k l0 0
theorem zaz.calls (k : Nat) (A0 : Option Addr) (c0 : Nat) (l0 : List Int) (r : Bool) (w : World) (hr0 : Kd.C (Kd.int .i64) w A0 l0.length l0) (hc0 : l0.length ≤ c0) (h : zaz.f k l0 = some r) :
  Calls Tryd.prog 55 #[.slice A0 l0.length c0] w fun e w' => e = .returned (.bool r) ∧ za3 w w' := by
 have HR0 := zaa.mk hr0
 have HC0 := zaa.mk hc0
 clear hr0 hc0
 have H : (zaz.l0 k l0 0) = some r := h
 clear h
 have H' := zaa.mk H
 clear H
 go_enter Tryd.func55, Tryd.ntmps55
 go_wp2
 go_loopg [3] k (fun kq v3 w' => ∃ (x3_1 : Int), v3 = .int .i64 x3_1 ∧ zaa (zaz.l0 kq l0 x3_1 = some r) ∧ zaa (kq ≤ k) ∧ za3 w w')
 case atStart => exact ⟨(0), rfl, H', ⟨Nat.le_refl _⟩, by repeat (first | exact za3.refl _ | apply za3.step)⟩
 case round =>
  clear H'
  obtain ⟨x3_1, rfl, HA, HK1, ⟨m1, rfl⟩⟩ := hrel
  cases gk with
  | zero => exact absurd HA.out (by simp [zaz.l0])
  | succ k1 =>
   have H := HA.out
   clear HA
   simp only [zaz.l0] at H
   by_cases c2 : x3_1 < (l0.length : Int)
   ·rw [if_pos c2] at H
    have c2b0 : decide (x3_1 < (l0.length : Int)) = true := decide_eq_true c2
    clear c2
    by_cases c3 : 0 ≤ x3_1
    ·rw [if_pos c3] at H
     have c3b0 : decide (0 ≤ x3_1) = true := decide_eq_true c3
     clear c3
     replace H := Option.bind_eq_some_iff.mp H
     obtain ⟨t171, A40, H⟩ := H
     have A4 := zaa.mk A40
     clear A40
     by_cases c5 : t171 = true
     ·subst c5
      rw [if_pos rfl] at H; have H1 := H
      clear H
      have H := H1
      clear H1
      have H' := zaa.mk H
      clear H
      have p170 : 0 ≤ (x3_1 : Int) := of_decide_eq_true (by assumption)
      have q170 : x3_1 < (l0.length : Int) := of_decide_eq_true (by assumption)
      obtain ⟨ad170, e170, hx170_0⟩ := Kd.at_int HR0.out x3_1 p170 q170
      cases e170
      replace p170 := eq_true p170
      replace q170 := eq_true q170
      go_wp2_with (first | ((with_reducible refine zbc (f := 54) rfl ?_); refine zb6 (some 14) rfl rfl Tryd.func54 (by kernel_rfl) rfl #[.int .i64 (rd l0 x3_1)] rfl (by (try simp only [List.map_toArray, List.map_cons, List.map_nil]); first | done | rfl | (simp only [List.length_drop, List.length_take]; rfl)) ?_; (with_reducible refine (zbe.calls (rd l0 x3_1) true _ A4.out).mono ?_); rintro e w' ⟨rfl, ⟨nd, rfl⟩⟩; refine ⟨_, rfl, ?_⟩))
      go_roundg k1
      case measure => have := HK1.out; omega
      case rel => exact ⟨(wrap64 (x3_1 + 1)), rfl, H', ⟨by have := HK1.out; omega⟩, by repeat (first | exact za3.refl _ | apply za3.step)⟩
     ·replace c5 := Bool.eq_false_iff.mpr c5
      subst c5
      rw [if_neg (show ¬ (false = true) by decide)] at H; have H1 := H
      clear H
      have H := H1
      clear H1
      obtain rfl := Option.some.inj H
      have p170 : 0 ≤ (x3_1 : Int) := of_decide_eq_true (by assumption)
      have q170 : x3_1 < (l0.length : Int) := of_decide_eq_true (by assumption)
      obtain ⟨ad170, e170, hx170_0⟩ := Kd.at_int HR0.out x3_1 p170 q170
      cases e170
      replace p170 := eq_true p170
      replace q170 := eq_true q170
      go_wp2_with (first | ((with_reducible refine zbc (f := 54) rfl ?_); refine zb6 (some 14) rfl rfl Tryd.func54 (by kernel_rfl) rfl #[.int .i64 (rd l0 x3_1)] rfl (by (try simp only [List.map_toArray, List.map_cons, List.map_nil]); first | done | rfl | (simp only [List.length_drop, List.length_take]; rfl)) ?_; (with_reducible refine (zbe.calls (rd l0 x3_1) false _ A4.out).mono ?_); rintro e w' ⟨rfl, ⟨nd, rfl⟩⟩; refine ⟨_, rfl, ?_⟩))
      go_ret
      exact ⟨by first | rfl | (simp; done) | (simp [*]; done), by repeat (first | exact za3.refl _ | apply za3.step)⟩
    ·rw [if_neg c3] at H
     exact absurd H (by simp)
   ·rw [if_neg c2] at H
    have c2b0 : decide (x3_1 < (l0.length : Int)) = false := decide_eq_false c2
    clear c2
    obtain rfl := Option.some.inj H
    go_wp2
    go_ret
    exact ⟨by first | rfl | (simp; done) | (simp [*]; done), by repeat (first | exact za3.refl _ | apply za3.step)⟩
mutual
def zar.j0 : Nat → Int → Int → Int → ByteArray → Option (Int × Int × Int × ByteArray × ByteArray)
 | 0, _, _, _, _ => none
 | k + 1, x173000, x173001, x173002, x173003 => zar.l0 k (⟨#[]⟩ : ByteArray) x173000 x173001 x173002 x173003
def zar.l0 : Nat → ByteArray → Int → Int → Int → ByteArray → Option (Int × Int × Int × ByteArray × ByteArray)
 | 0, _, _, _, _, _ => none
 | k + 1, x9, x173000, x173001, x173002, x173003 => if (x173000 / 16777216) = (x173001 / 16777216) then ((some (([(x173000 / 16777216) % 256] : List Int) : List Int)).bind fun y174 => (if x9.size + (strOfNums y174).size ≤ 9223372036854775807 then (zar.l0 k (x9 ++ (strOfNums y174)) (IntKind.u64.wrap ((Int.tmod x173000 16777216) * 256)) (IntKind.u64.wrap ((IntKind.u64.wrap ((Int.tmod x173001 16777216) * 256)) + 255)) x173002 x173003) else (none))) else (some (x173000, x173001, x173002, x173003, x9))
end
def zar.f (k : Nat) (a0_0 : Int) (a0_1 : Int) (a0_2 : Int) (a0_3 : ByteArray) (a1 : Int) (a2 : Bool) : Option (Int × Int × Int × ByteArray × ByteArray) := if a2 = true then (zar.j0 k (IntKind.u64.wrap ((IntKind.u64.wrap (a0_0 + (IntKind.u64.wrap ((IntKind.u64.wrap (Int.tdiv (IntKind.u64.wrap (a0_1 - a0_0)) 2048)) * (IntKind.u64.wrap (a1)))))) + 1)) a0_1 a0_2 a0_3) else (zar.j0 k a0_0 (IntKind.u64.wrap (a0_0 + (IntKind.u64.wrap ((IntKind.u64.wrap (Int.tdiv (IntKind.u64.wrap (a0_1 - a0_0)) 2048)) * (IntKind.u64.wrap (a1)))))) a0_2 a0_3)
theorem zar.calls (k : Nat) (a0_0 : Int) (a0_1 : Int) (a0_2 : Int) (a0_3 : ByteArray) (a1 : Int) (a2 : Bool) (r1 : Int) (r2 : Int) (r3 : Int) (r4 : ByteArray) (r5 : ByteArray) (w : World) (h : zar.f k a0_0 a0_1 a0_2 a0_3 a1 a2 = some (r1, r2, r3, r4, r5)) :
  Calls Tryd.prog 56 #[.agg #[.int .u64 a0_0, .int .u64 a0_1, .int .u64 a0_2, .string a0_3], .int .i64 a1, .bool a2] w fun e w' => e = .returned (.tuple #[.agg #[.int .u64 r1, .int .u64 r2, .int .u64 r3, .string r4], .string r5]) ∧ Below w.heap.size w w' := by
 have hu97 := Tryd.underlying97
 have HB := zaa.mk (Below.refl w.heap.size w)
 have H : (if a2 = true then (zar.j0 k (IntKind.u64.wrap ((IntKind.u64.wrap (a0_0 + (IntKind.u64.wrap ((IntKind.u64.wrap (Int.tdiv (IntKind.u64.wrap (a0_1 - a0_0)) 2048)) * (IntKind.u64.wrap (a1)))))) + 1)) a0_1 a0_2 a0_3) else (zar.j0 k a0_0 (IntKind.u64.wrap (a0_0 + (IntKind.u64.wrap ((IntKind.u64.wrap (Int.tdiv (IntKind.u64.wrap (a0_1 - a0_0)) 2048)) * (IntKind.u64.wrap (a1)))))) a0_2 a0_3)) = some (r1, r2, r3, r4, r5) := h
 clear h
 have HC4 := zaa.mk H
 clear H
 go_enter Tryd.func56, Tryd.ntmps56
 go_upto_if 22 with (first | ((with_reducible refine zay (N := 3) rfl ?_); refine zcq ?hg (N := 3) ?hd (cs := #[.int .u64 a0_0, .int .u64 a0_1, .int .u64 a0_2, .string a0_3]) (t := 97) ?hr ?_; (case hd => rfl); (case hg => rfl); (case hr => first | (go_simp; done) | (go_simp; rfl)); intro gb172 hg w5 hbox hb; have n0_ := zaa.mk (zaf HB.out hb); have n1_ := zaa.mk (hbox); have n2_ := zaa.mk ((by rw [hg]; exact (zam HB.out) : w.heap.size ≤ gb172)); have n3_ := zaa.mk ((by rw [hg]; exact (zam HB.out) : w.heap.size ≤ gb172)); clear HB; have HB := n0_; have BK172 := n1_; have GW172 := n2_; have GE172 := n3_; clear n0_ n1_ n2_ n3_; clear hb hbox hg) | ((with_reducible refine zay (N := 6) rfl ?_); refine zcq ?hg (N := 6) ?hd (cs := #[.int .u64 0, .int .u64 0, .int .u64 0, .string (⟨#[]⟩ : ByteArray)]) (t := 97) ?hr ?_; (case hd => rfl); (case hg => rfl); (case hr => first | (go_simp; done) | (go_simp; rfl)); intro gb173 hg w6 hbox hb; have n0_ := zaa.mk (za6 (g := gb172) (o := .cells #[.int .u64 a0_0, .int .u64 a0_1, .int .u64 a0_2, .string a0_3] 97 (0, 0)) BK172.out hb); have n1_ := zaa.mk (zaf HB.out hb); have n2_ := zaa.mk (hbox); have n3_ := zaa.mk ((by rw [hg]; exact (zam HB.out) : w.heap.size ≤ gb173)); have n4_ := zaa.mk ((by rw [hg]; exact (zam HB.out) : w.heap.size ≤ gb173)); have n5_ := zaa.mk ((by rw [hg]; exact Nat.ne_of_lt (zb0 (g := gb172) (o := .cells #[.int .u64 a0_0, .int .u64 a0_1, .int .u64 a0_2, .string a0_3] 97 (0, 0)) BK172.out) : gb172 ≠ gb173)); have n6_ := zaa.mk ((by rw [hg]; exact Nat.ne_of_gt (zb0 (g := gb172) (o := .cells #[.int .u64 a0_0, .int .u64 a0_1, .int .u64 a0_2, .string a0_3] 97 (0, 0)) BK172.out) : gb173 ≠ gb172)); clear BK172; clear HB; have BK172 := n0_; have HB := n1_; have BK173 := n2_; have GW173 := n3_; have GE173 := n4_; have NB172_173 := n5_; have NB173_172 := n6_; clear n0_ n1_ n2_ n3_ n4_ n5_ n6_; clear hb hbox hg; have hnb7 := NB172_173.out; have hnc7 := NB173_172.out; have hcz8_0 : w6.cell? ⟨gb172, 0, none⟩ = some (.int .u64 a0_0) := (zah BK172.out 0).trans rfl; have hcz8_1 : w6.cell? ⟨gb172, 1, none⟩ = some (.int .u64 a0_1) := (zah BK172.out 1).trans rfl; have hcz8_2 : w6.cell? ⟨gb172, 2, none⟩ = some (.int .u64 a0_2) := (zah BK172.out 2).trans rfl; have hcz8_3 : w6.cell? ⟨gb172, 3, none⟩ = some (.string a0_3) := (zah BK172.out 3).trans rfl; have hfz8_0 := zao BK172.out 0; have hfz8_1 := zao BK172.out 1; have hfz8_2 := zao BK172.out 2; have hfz8_3 := zao BK172.out 3))
 (try simp only [Act.put, sAt, sZr, sSc])
 go_cut [] (fun wc => ∃ (kq : Nat) (x173000_3 : Int) (x173001_3 : Int), zaa (zar.j0 kq x173000_3 x173001_3 a0_2 a0_3 = some (r1, r2, r3, r4, r5)) ∧ zaa (kq ≤ k) ∧ zaa (wc.heap[gb172]? = some (.cells #[.int .u64 x173000_3, .int .u64 x173001_3, .int .u64 a0_2, .string a0_3] 97 (0, 0))) ∧ zaa (wc.heap[gb173]? = some (.cells #[.int .u64 0, .int .u64 0, .int .u64 0, .string (⟨#[]⟩ : ByteArray)] 97 (0, 0))) ∧ zaa (Below w.heap.size w wc))
 case first =>
  have H := HC4.out
  clear HC4
  by_cases c9 : a2 = true
  ·subst c9
   rw [if_pos rfl] at H; have H1 := H
   clear H
   have H := H1
   clear H1
   have H' := zaa.mk H
   clear H
   have hnb10 := NB172_173.out
   have hnc10 := NB173_172.out
   have hcz11_0 : w6.cell? ⟨gb172, 0, none⟩ = some (.int .u64 a0_0) := (zah BK172.out 0).trans rfl
   have hcz11_1 : w6.cell? ⟨gb172, 1, none⟩ = some (.int .u64 a0_1) := (zah BK172.out 1).trans rfl
   have hcz11_2 : w6.cell? ⟨gb172, 2, none⟩ = some (.int .u64 a0_2) := (zah BK172.out 2).trans rfl
   have hcz11_3 : w6.cell? ⟨gb172, 3, none⟩ = some (.string a0_3) := (zah BK172.out 3).trans rfl
   have hfz11_0 := zao BK172.out 0
   have hfz11_1 := zao BK172.out 1
   have hfz11_2 := zao BK172.out 2
   have hfz11_3 := zao BK172.out 3
   go_wp2
   go_meet
   case rel => exact ⟨_, (IntKind.u64.wrap ((IntKind.u64.wrap (a0_0 + (IntKind.u64.wrap ((IntKind.u64.wrap (Int.tdiv (IntKind.u64.wrap (a0_1 - a0_0)) 2048)) * (IntKind.u64.wrap (a1)))))) + 1)), (a0_1), H', ⟨by first | omega | exact Nat.le_refl _⟩, ⟨by (with_reducible repeat (first | refine blk_drewN ?_ _ | refine zbk ?_ | refine za7 ?_ _)); refine zb2 (cs := #[.int .u64 a0_0, .int .u64 a0_1, .int .u64 a0_2, .string a0_3]) ?_ 0 _ rfl; (with_reducible repeat (first | refine blk_drewN ?_ _ | refine zbk ?_ | refine za7 ?_ _)); exact BK172.out⟩, ⟨by (with_reducible repeat (first | refine blk_drewN ?_ _ | refine zbk ?_ | refine za7 ?_ _)); refine zbo ?_ NB173_172.out _; (with_reducible repeat (first | refine blk_drewN ?_ _ | refine zbk ?_ | refine za7 ?_ _)); exact BK173.out⟩, ⟨by repeat (first | exact HB.out | apply zac | apply zab | apply zad | refine zat ?_ GE172.out | refine zat ?_ GE173.out)⟩⟩
  ·replace c9 := Bool.eq_false_iff.mpr c9
   subst c9
   rw [if_neg (show ¬ (false = true) by decide)] at H; have H1 := H
   clear H
   have H := H1
   clear H1
   have H' := zaa.mk H
   clear H
   have hnb12 := NB172_173.out
   have hnc12 := NB173_172.out
   have hcz13_0 : w6.cell? ⟨gb172, 0, none⟩ = some (.int .u64 a0_0) := (zah BK172.out 0).trans rfl
   have hcz13_1 : w6.cell? ⟨gb172, 1, none⟩ = some (.int .u64 a0_1) := (zah BK172.out 1).trans rfl
   have hcz13_2 : w6.cell? ⟨gb172, 2, none⟩ = some (.int .u64 a0_2) := (zah BK172.out 2).trans rfl
   have hcz13_3 : w6.cell? ⟨gb172, 3, none⟩ = some (.string a0_3) := (zah BK172.out 3).trans rfl
   have hfz13_0 := zao BK172.out 0
   have hfz13_1 := zao BK172.out 1
   have hfz13_2 := zao BK172.out 2
   have hfz13_3 := zao BK172.out 3
   go_wp2
   go_meet
   case rel => exact ⟨_, (a0_0), (IntKind.u64.wrap (a0_0 + (IntKind.u64.wrap ((IntKind.u64.wrap (Int.tdiv (IntKind.u64.wrap (a0_1 - a0_0)) 2048)) * (IntKind.u64.wrap (a1)))))), H', ⟨by first | omega | exact Nat.le_refl _⟩, ⟨by (with_reducible repeat (first | refine blk_drewN ?_ _ | refine zbk ?_ | refine za7 ?_ _)); refine zb2 (cs := #[.int .u64 a0_0, .int .u64 a0_1, .int .u64 a0_2, .string a0_3]) ?_ 1 _ rfl; (with_reducible repeat (first | refine blk_drewN ?_ _ | refine zbk ?_ | refine za7 ?_ _)); exact BK172.out⟩, ⟨by (with_reducible repeat (first | refine blk_drewN ?_ _ | refine zbk ?_ | refine za7 ?_ _)); refine zbo ?_ NB173_172.out _; (with_reducible repeat (first | refine blk_drewN ?_ _ | refine zbk ?_ | refine za7 ?_ _)); exact BK173.out⟩, ⟨by repeat (first | exact HB.out | apply zac | apply zab | apply zad | refine zat ?_ GE172.out | refine zat ?_ GE173.out)⟩⟩
 case rest =>
  clear HC4
  obtain ⟨kq, x173000_3, x173001_3, HA, HJ3, BK172, BK173, HB⟩ := hcut
  cases kq with
  | zero => exact absurd HA.out (by simp [zar.j0])
  | succ kj3 =>
   have H := HA.out
   clear HA
   simp only [zar.j0] at H
   have H' := zaa.mk H
   clear H
   go_wp2
   go_loopg [9] kj3 (fun kq v9 w' => ∃ (x9_2 : ByteArray) (x173000_2 : Int) (x173001_2 : Int), v9 = .string x9_2 ∧ zaa (zar.l0 kq x9_2 x173000_2 x173001_2 a0_2 a0_3 = some (r1, r2, r3, r4, r5)) ∧ zaa (kq ≤ kj3) ∧ zaa (w'.heap[gb172]? = some (.cells #[.int .u64 x173000_2, .int .u64 x173001_2, .int .u64 a0_2, .string a0_3] 97 (0, 0))) ∧ zaa (w'.heap[gb173]? = some (.cells #[.int .u64 0, .int .u64 0, .int .u64 0, .string (⟨#[]⟩ : ByteArray)] 97 (0, 0))) ∧ zaa (Below w.heap.size w w'))
   case atStart => exact ⟨((⟨#[]⟩ : ByteArray)), (x173000_3), (x173001_3), rfl, H', ⟨Nat.le_refl _⟩, ⟨by (with_reducible repeat (first | refine blk_drewN ?_ _ | refine zbk ?_ | refine za7 ?_ _)); exact BK172.out⟩, ⟨by (with_reducible repeat (first | refine blk_drewN ?_ _ | refine zbk ?_ | refine za7 ?_ _)); exact BK173.out⟩, ⟨by repeat (first | exact HB.out | apply zac | apply zab | apply zad | refine zat ?_ GE172.out | refine zat ?_ GE173.out)⟩⟩
   case round =>
    clear H'
    obtain ⟨x9_2, x173000_2, x173001_2, rfl, HA, HK2, BK172, BK173, HB⟩ := hrel
    cases gk with
    | zero => exact absurd HA.out (by simp [zar.l0])
    | succ k2 =>
     have H := HA.out
     clear HA
     simp only [zar.l0] at H
     by_cases c14 : (x173000_2 / 16777216) = (x173001_2 / 16777216)
     ·rw [if_pos c14] at H
      have c14b0 : ((x173000_2 / 16777216) == (x173001_2 / 16777216)) = true := beq_iff_eq.mpr c14
      clear c14
      obtain ⟨y174, hy174⟩ : ∃ y_ : List Int, y_ = (([(x173000_2 / 16777216) % 256] : List Int)) := ⟨_, rfl⟩
      replace H : (if x9_2.size + (strOfNums y174).size ≤ 9223372036854775807 then (zar.l0 k2 (x9_2 ++ (strOfNums y174)) (IntKind.u64.wrap ((Int.tmod x173000_2 16777216) * 256)) (IntKind.u64.wrap ((IntKind.u64.wrap ((Int.tmod x173001_2 16777216) * 256)) + 255)) a0_2 a0_3) else (none)) = some (r1, r2, r3, r4, r5) := by first | (rw [hy174]; with_reducible exact H) | (have H2_ := (Option.bind_some _ _).symm.trans H; rw [hy174]; with_reducible exact H2_) | (have H2_ := (Option.bind_some _ _).symm.trans H; with_reducible exact H2_) | with_reducible exact H | (rw [hy174]; exact H) | exact H
      have Ny174 := zaa.mk hy174
      clear hy174
      by_cases c15 : x9_2.size + (strOfNums y174).size ≤ 9223372036854775807
      ·rw [if_pos c15] at H
       have c15b0 := eq_true c15
       have c15b1 : decide (x9_2.size + (strOfNums y174).size ≤ 9223372036854775807) = true := decide_eq_true c15
       have H' := zaa.mk H
       clear H
       have hnb16 := NB172_173.out
       have hnc16 := NB173_172.out
       have hcz17_0 : wr.cell? ⟨gb172, 0, none⟩ = some (.int .u64 x173000_2) := (zah BK172.out 0).trans rfl
       have hcz17_1 : wr.cell? ⟨gb172, 1, none⟩ = some (.int .u64 x173001_2) := (zah BK172.out 1).trans rfl
       have hcz17_2 : wr.cell? ⟨gb172, 2, none⟩ = some (.int .u64 a0_2) := (zah BK172.out 2).trans rfl
       have hcz17_3 : wr.cell? ⟨gb172, 3, none⟩ = some (.string a0_3) := (zah BK172.out 3).trans rfl
       have hfz17_0 := zao BK172.out 0
       have hfz17_1 := zao BK172.out 1
       have hfz17_2 := zao BK172.out 2
       have hfz17_3 := zao BK172.out 3
       go_wp2_with (first | ((with_reducible refine zay (N := 40) rfl ?_); refine Kd.R_lit (Kd.int .u8) _ 5 ?hg (N := 40) ?hd (xs := ([(x173000_2 / 16777216) % 256] : List Int)) (inner := [.int .u8 ((x173000_2 / 16777216) % 256)]) (ok := fun _ => True) (okp := fun _ => True) ?hr ?hp (fun _ hk => hk) trivial (Below.refl _ _) (Nat.le_refl _) (by simp) ?_; (case hd => rfl); (case hg => rfl); (case hr => first | (go_simp; done) | (go_simp; rfl)); (case hp => exact (Reps.one (show Kd.M (Kd.int .u8) _ _ _ ((x173000_2 / 16777216) % 256) [.int .u8 ((x173000_2 / 16777216) % 256)] from rfl) (Reps.none _ _))); intro v175 w18 ho19 hb hg_ hnew_; clear hg_ hnew_; (first | rw [← Ny174.out] at ho19 | (simp only [Int.reduceToNat] at ho19; rw [← Ny174.out] at ho19)); have n0_ := zaa.mk (Kd.R_lower ho19 (zam HB.out)); have n1_ := zaa.mk (za6 (g := gb172) (o := .cells #[.int .u64 x173000_2, .int .u64 x173001_2, .int .u64 a0_2, .string a0_3] 97 (0, 0)) BK172.out hb); have n2_ := zaa.mk (za6 (g := gb173) (o := .cells #[.int .u64 0, .int .u64 0, .int .u64 0, .string (⟨#[]⟩ : ByteArray)] 97 (0, 0)) BK173.out hb); have n3_ := zaa.mk (zaf HB.out hb); clear BK172; clear BK173; clear HB; have HO176 := n0_; have BK172 := n1_; have BK173 := n2_; have HB := n3_; clear n0_ n1_ n2_ n3_; clear hb ho19; have hcv20 := own_string (P := Tryd.prog) Tryd.underlying48 Tryd.underlying5 Tryd.underlying9 (Kd.own_of_R HO176.out); have hcz21_0 : w18.cell? ⟨gb172, 0, none⟩ = some (.int .u64 x173000_2) := (zah BK172.out 0).trans rfl; have hcz21_1 : w18.cell? ⟨gb172, 1, none⟩ = some (.int .u64 x173001_2) := (zah BK172.out 1).trans rfl; have hcz21_2 : w18.cell? ⟨gb172, 2, none⟩ = some (.int .u64 a0_2) := (zah BK172.out 2).trans rfl; have hcz21_3 : w18.cell? ⟨gb172, 3, none⟩ = some (.string a0_3) := (zah BK172.out 3).trans rfl; have hfz21_0 := zao BK172.out 0; have hfz21_1 := zao BK172.out 1; have hfz21_2 := zao BK172.out 2; have hfz21_3 := zao BK172.out 3))
       go_roundg k2
       case measure => have := HJ3.out; have := HK2.out; omega
       case rel => exact ⟨(x9_2 ++ (strOfNums y174)), (IntKind.u64.wrap ((Int.tmod x173000_2 16777216) * 256)), (IntKind.u64.wrap ((IntKind.u64.wrap ((Int.tmod x173001_2 16777216) * 256)) + 255)), rfl, H', ⟨by have := HJ3.out; have := HK2.out; omega⟩, ⟨by (with_reducible repeat (first | refine blk_drewN ?_ _ | refine zbk ?_ | refine za7 ?_ _)); refine zb2 (cs := #[.int .u64 (IntKind.u64.wrap ((Int.tmod x173000_2 16777216) * 256)), .int .u64 x173001_2, .int .u64 a0_2, .string a0_3]) ?_ 1 _ rfl; (with_reducible repeat (first | refine blk_drewN ?_ _ | refine zbk ?_ | refine za7 ?_ _)); refine zb2 (cs := #[.int .u64 x173000_2, .int .u64 x173001_2, .int .u64 a0_2, .string a0_3]) ?_ 0 _ rfl; (with_reducible repeat (first | refine blk_drewN ?_ _ | refine zbk ?_ | refine za7 ?_ _)); exact BK172.out⟩, ⟨by (with_reducible repeat (first | refine blk_drewN ?_ _ | refine zbk ?_ | refine za7 ?_ _)); refine zbo ?_ NB173_172.out _; (with_reducible repeat (first | refine blk_drewN ?_ _ | refine zbk ?_ | refine za7 ?_ _)); refine zbo ?_ NB173_172.out _; (with_reducible repeat (first | refine blk_drewN ?_ _ | refine zbk ?_ | refine za7 ?_ _)); exact BK173.out⟩, ⟨by repeat (first | exact HB.out | apply zac | apply zab | apply zad | refine zat ?_ GE172.out | refine zat ?_ GE173.out)⟩⟩
      ·rw [if_neg c15] at H
       exact absurd H (by simp)
     ·rw [if_neg c14] at H
      have c14b0 : ((x173000_2 / 16777216) == (x173001_2 / 16777216)) = false := beq_eq_false_iff_ne.mpr c14
      simp only [Option.some.injEq, Prod.mk.injEq] at H
      obtain ⟨rfl, rfl, rfl, rfl, rfl⟩ := H
      have hnb22 := NB172_173.out
      have hnc22 := NB173_172.out
      have hcz23_0 : wr.cell? ⟨gb172, 0, none⟩ = some (.int .u64 x173000_2) := (zah BK172.out 0).trans rfl
      have hcz23_1 : wr.cell? ⟨gb172, 1, none⟩ = some (.int .u64 x173001_2) := (zah BK172.out 1).trans rfl
      have hcz23_2 : wr.cell? ⟨gb172, 2, none⟩ = some (.int .u64 a0_2) := (zah BK172.out 2).trans rfl
      have hcz23_3 : wr.cell? ⟨gb172, 3, none⟩ = some (.string a0_3) := (zah BK172.out 3).trans rfl
      have hfz23_0 := zao BK172.out 0
      have hfz23_1 := zao BK172.out 1
      have hfz23_2 := zao BK172.out 2
      have hfz23_3 := zao BK172.out 3
      have hcz24_0 : wr.cell? ⟨gb173, 0, none⟩ = some (.int .u64 0) := (zah BK173.out 0).trans rfl
      have hcz24_1 : wr.cell? ⟨gb173, 1, none⟩ = some (.int .u64 0) := (zah BK173.out 1).trans rfl
      have hcz24_2 : wr.cell? ⟨gb173, 2, none⟩ = some (.int .u64 0) := (zah BK173.out 2).trans rfl
      have hcz24_3 : wr.cell? ⟨gb173, 3, none⟩ = some (.string (⟨#[]⟩ : ByteArray)) := (zah BK173.out 3).trans rfl
      have hfz24_0 := zao BK173.out 0
      have hfz24_1 := zao BK173.out 1
      have hfz24_2 := zao BK173.out 2
      have hfz24_3 := zao BK173.out 3
      go_wp2
      refine bodyPost_ret (results_ct rfl _ _ gb173 97 #[.int .u64 x173000_2, .int .u64 x173001_2, .int .u64 a0_2, .string a0_3] (0, 0) _ rfl (by (with_reducible repeat (first | refine blk_drewN ?_ _ | refine zbk ?_ | refine za7 ?_ _)); refine zb2 (cs := #[.int .u64 x173000_2, .int .u64 x173001_2, .int .u64 a0_2, .string (⟨#[]⟩ : ByteArray)]) ?_ 3 _ rfl; (with_reducible repeat (first | refine blk_drewN ?_ _ | refine zbk ?_ | refine za7 ?_ _)); refine zb2 (cs := #[.int .u64 x173000_2, .int .u64 x173001_2, .int .u64 0, .string (⟨#[]⟩ : ByteArray)]) ?_ 2 _ rfl; (with_reducible repeat (first | refine blk_drewN ?_ _ | refine zbk ?_ | refine za7 ?_ _)); refine zb2 (cs := #[.int .u64 x173000_2, .int .u64 0, .int .u64 0, .string (⟨#[]⟩ : ByteArray)]) ?_ 1 _ rfl; (with_reducible repeat (first | refine blk_drewN ?_ _ | refine zbk ?_ | refine za7 ?_ _)); refine zb2 (cs := #[.int .u64 0, .int .u64 0, .int .u64 0, .string (⟨#[]⟩ : ByteArray)]) ?_ 0 _ rfl; (with_reducible repeat (first | refine blk_drewN ?_ _ | refine zbk ?_ | refine za7 ?_ _)); exact BK173.out) Tryd.underlying97 rfl (by kernel_rfl)) rfl ?_
      exact ⟨rfl, by repeat (first | exact HB.out | apply zac | apply zab | apply zad | refine zat ?_ GE172.out | refine zat ?_ GE173.out)⟩
end Go.Proofs.YtdifgiceallpiaaDoor.Pr
end
section
namespace Go.Proofs.YtdifgiceallpiaaDoor.Pure
open Go.RowKit Go.Proofs.YtdifgiceallpiaaDoorW.PrintWords Go.Proofs.YtdifgiceallpiaaDoorW.PrintMore Go.Proofs.YtdifgiceallpiaaDoor.Pa Go.Proofs.YtdifgiceallpiaaDoor.Hd Go.Proofs.YtdifgiceallpiaaDoor.P Go.Proofs.YtdifgiceallpiaaDoor.Pr Go.Proofs.YtdifgiceallpiaaDoor.Com

theorem rput_l0 (n : Nat) : ∀ out : List Int, out.length + n ≤ 17592186044416 → n ≤ 4294967295 → Ev (fun k => zaj.l0 k (n : Int) out) (strOfNums (out ++ (en n).map (fun x : Nat => (x : Int))), 0) := by
  induction n using Nat.strongRecOn with
  | _ n ih =>
    intro out ho hn
    by_cases h : n < 128
    · rw [en_small h]
      refine Ev.step (f := fun _ => some (strOfNums (out ++ [(n : Int)]), 0)) (fun k => ?_) (Ev.now _)
      simp only [zaj.l0]
      rw [if_neg (by omega), if_pos (by omega)]
      have e : (n : Int) % 256 = (n : Int) := by omega
      rw [e]
    · rw [en_big (by omega)]
      have := ih (n / 128) (by omega) (out ++ [((128 + n % 128 : Nat) : Int)]) (by simp; omega) (by omega)
      refine Ev.step (f := fun k => zaj.l0 k ((n / 128 : Nat) : Int) (out ++ [((128 + n % 128 : Nat) : Int)])) (fun k => ?_) (by simpa using this)
      simp only [zaj.l0]
      rw [if_pos (by omega), if_pos (by omega), Int.tdiv_eq_ediv_of_nonneg (by omega), Int.tmod_eq_emod_of_nonneg (by omega), w64 (x := (n : Int) / 128) (by omega) (by omega), w64 (x := 128 + (n : Int) % 128) (by omega) (by omega)]
      have e2 : (n : Int) / 128 = ((n / 128 : Nat) : Int) := by omega
      have e3 : (128 + (n : Int) % 128) % 256 = ((128 + n % 128 : Nat) : Int) := by omega
      rw [e2, e3]

theorem rput_ev (n : Int) : Ev (fun k => zaj.f k n) (put n) := by
  unfold put
  by_cases h : 0 ≤ n ∧ n ≤ 4294967295
  · have e : inR n = true := by simp [inR, h]
    rw [e, if_pos rfl]
    have h1 := rput_l0 n.toNat [] (by simp; omega) (by omega)
    have e2 : ((n.toNat : Nat) : Int) = n := by omega
    rw [e2] at h1
    refine Ev.step (fun k => ?_) h1
    simp only [zaj.f]
    rw [if_neg (by omega)]
    simp only [zaj.j0]
    rw [if_neg (by simp; omega)]
  · have e : inR n = false := by simp [inR]; omega
    rw [e, if_neg (by simp)]
    refine Ev.step (f := fun _ => some (⟨#[]⟩, 2)) (fun k => ?_) (Ev.now _)
    simp only [zaj.f]
    by_cases h1 : n < 0
    · rw [if_pos h1]; simp only [zaj.j0]; rfl
    · rw [if_neg h1]; simp only [zaj.j0]; rw [if_pos (by simp; omega)]

end Go.Proofs.YtdifgiceallpiaaDoor.Pure
end
