/- Words of this seat. -/
import Derived.Test.YtdifgiceallpiaaDoorProg
import Derived.Below
import Derived.Deep.Draws
import Derived.Deep.AppendLies
import Derived.Maps.AppendAt
import Derived.OwnWalk
import Derived.Laws.BytesArg
import Derived.Laws.MakeOwn
import Derived.Laws.OwnMore
import Derived.Deep.OwnRows
import Derived.Tactics
import Derived.Lib.ConvBytes
import Derived.Laws.Slices
import Derived.WalkKit
import Derived.KernelRfl
import Derived.RowKit3
import Derived.Deep.LoopGhost
import Derived.Deep.QuietTactic
import Derived.BigQuiet
import Derived.WideLaws
import Derived.Deep.DeepCutAuto
import Derived.Deep.CutBlock
import Derived.Deep.RegionHeld3
import Derived.Laws.Rows
import Derived.Lib.AppendStr
import Derived.ArgAppend
import Derived.Laws.IdiomCopy
import Derived.OrdersHeld
import Derived.Laws.BitsLemmas
import Derived.RowKit
import Derived.WalkMore
import Derived.Test.YtdifgiceallpiaaDoorXWWords
import Derived.Test.YtdifgiceallpiaaDoorXWTab
import Derived.Laws.StructEq
import Derived.ScopeJumps
import Derived.Test.YtdifgiceallpiaaDoorXPx0
import Derived.Test.YtdifgiceallpiaaDoorXByt
set_option linter.unusedVariables false
set_option linter.unusedSimpArgs false
set_option linter.unusedSectionVars false
section
-- Laid by this session's driver (wip/tools/myprint.py) over the kit's print program.
namespace Go.Proofs.YtdifgiceallpiaaDoor.Hd
end Go.Proofs.YtdifgiceallpiaaDoor.Hd
namespace Go.Proofs.YtdifgiceallpiaaDoor.Pa
open Go.RowKit Go.Proofs.YtdifgiceallpiaaDoor.Hd Go.Proofs.YtdifgiceallpiaaDoorW.PrintWords Go.Proofs.YtdifgiceallpiaaDoorW.PrintLast Go.Proofs.YtdifgiceallpiaaDoorW.PrintMore
attribute [local go_sem] za9 za8 zbi zbj za0 za1 zba zbb   -- for this text's walks alone



def errW : Option Int → Value
  | none => .nilIface
  | some c => .iface 0 (.int .i64 c)
-- the values' own types

end Go.Proofs.YtdifgiceallpiaaDoor.Pa
end
section
-- Laid by this session's driver (wip/tools/myprint.py) over the kit's print program.
namespace Go.Proofs.YtdifgiceallpiaaDoor.Hd
end Go.Proofs.YtdifgiceallpiaaDoor.Hd
namespace Go.Proofs.YtdifgiceallpiaaDoor.Pa
open Go.RowKit YtdifgiceallpiaaDoor.Hd YtdifgiceallpiaaDoorW.PrintWords YtdifgiceallpiaaDoorW.PrintLast YtdifgiceallpiaaDoorW.PrintMore
attribute [local go_sem] za9 za8 zbi zbj za0 za1 zba zbb   -- for this text's walks alone
def IsS133 (w0 W : World) (g : Nat) (f0 : Int) (f1 : Int) (f2 : Int) (f3 : ByteArray) : Prop := W.heap[g]? = some (.cells #[.int .u64 f0, .int .u64 f1, .int .u64 f2, .string f3] 133 (0, 0)) ∧ w0.heap.size ≤ g
mutual
def za5.j0 : Nat → Int → Bool → Option (Int)
 | 0, _, _ => none
 | k + 1, x0, x9 => if x9 = true then (some 0) else (za5.l0 k (x0 / 128) 1)
def za5.l0 : Nat → Int → Int → Option (Int)
 | 0, _, _ => none
 | k + 1, x0, x3 => if x0 > 0 then (za5.l0 k (x0 / 128) (wrap64 (x3 + 1))) else (some x3)
end
def za5.f (k : Nat) (a0 : Int) : Option (Int) := if a0 < 0 then (za5.j0 k a0 true) else (za5.j0 k a0 (decide (a0 > 4294967295)))
theorem za5.calls (k : Nat) (a0 : Int) (r : Int) (w : World) (h : za5.f k a0 = some r) :
  Calls Tryd.prog 25 #[.int .i64 a0] w fun e w' => e = .returned (.int .i64 r) ∧ za3 w w' := by
 have H : (if a0 < 0 then (za5.j0 k a0 true) else (za5.j0 k a0 (decide (a0 > 4294967295)))) = some r := h
 clear h
 have HC2 := zaa.mk H
 clear H
 go_enter Tryd.func25, Tryd.ntmps25
 go_upto_region 1 with (fail)
 go_cut [9] (fun v9 wc => ∃ (kq : Nat) (x9_1 : Bool), v9 = .bool x9_1 ∧ zaa (za5.j0 kq a0 x9_1 = some r) ∧ zaa (kq ≤ k) ∧ za3 w wc)
 case first =>
  have H := HC2.out
  clear HC2
  by_cases c3 : a0 < 0
  ·rw [if_pos c3] at H
   have c3b0 : decide (a0 < 0) = true := decide_eq_true c3
   clear c3
   (first | rw [c3b0] | (simp only [i64_w, i32_w]; rw [c3b0]) | skip)
   have H' := zaa.mk H
   clear H
   go_wp2
   go_meet
   case rel => exact ⟨_, (true), rfl, H', ⟨by first | omega | exact Nat.le_refl _⟩, by repeat (first | exact za3.refl _ | apply za3.step)⟩
  ·rw [if_neg c3] at H
   have c3b0 : decide (a0 < 0) = false := decide_eq_false c3
   clear c3
   (first | rw [c3b0] | (simp only [i64_w, i32_w]; rw [c3b0]) | skip)
   have H' := zaa.mk H
   clear H
   go_wp2
   go_meet
   case rel => exact ⟨_, (decide (a0 > 4294967295)), rfl, H', ⟨by first | omega | exact Nat.le_refl _⟩, by repeat (first | exact za3.refl _ | apply za3.step)⟩
 case rest =>
  clear HC2
  obtain ⟨kq, x9_1, rfl, HA, HJ1, ⟨mc1, rfl⟩⟩ := hcut
  cases kq with
  | zero => exact absurd HA.out (by simp [za5.j0])
  | succ kj1 =>
   have H := HA.out
   clear HA
   simp only [za5.j0] at H
   by_cases c4 : x9_1 = true
   ·subst c4
    rw [if_pos rfl] at H; have H1 := H
    clear H
    have H := H1
    clear H1
    obtain rfl := Option.some.inj H
    go_wp2
    go_ret
    exact ⟨by first | rfl | (simp; done) | (simp [*]; done), by repeat (first | exact za3.refl _ | apply za3.step)⟩
   ·replace c4 := Bool.eq_false_iff.mpr c4
    subst c4
    rw [if_neg (show ¬ (false = true) by decide)] at H; have H1 := H
    clear H
    have H := H1
    clear H1
    have H' := zaa.mk H
    clear H
    go_wp2
    go_loopg [0, 3] kj1 (fun kq v0 v3 w' => ∃ (x0_2 : Int) (x3_2 : Int), v0 = .int .i64 x0_2 ∧ v3 = .int .i64 x3_2 ∧ zaa (za5.l0 kq x0_2 x3_2 = some r) ∧ zaa (kq ≤ kj1) ∧ za3 w w')
    case atStart => exact ⟨(a0 / 128), (1), rfl, rfl, H', ⟨Nat.le_refl _⟩, by repeat (first | exact za3.refl _ | apply za3.step)⟩
    case round =>
     clear H'
     obtain ⟨x0_2, x3_2, rfl, rfl, HA, HK2, ⟨m2, rfl⟩⟩ := hrel
     cases gk with
     | zero => exact absurd HA.out (by simp [za5.l0])
     | succ k2 =>
      have H := HA.out
      clear HA
      simp only [za5.l0] at H
      by_cases c5 : x0_2 > 0
      ·rw [if_pos c5] at H
       have c5b0 : decide (0 < x0_2) = true := decide_eq_true c5
       clear c5
       have H' := zaa.mk H
       clear H
       go_wp2
       go_roundg k2
       case measure => have := HJ1.out; have := HK2.out; omega
       case rel => exact ⟨(x0_2 / 128), (wrap64 (x3_2 + 1)), rfl, rfl, H', ⟨by have := HJ1.out; have := HK2.out; omega⟩, by repeat (first | exact za3.refl _ | apply za3.step)⟩
      ·rw [if_neg c5] at H
       have c5b0 : decide (0 < x0_2) = false := decide_eq_false c5
       clear c5
       obtain rfl := Option.some.inj H
       go_wp2
       go_ret
       exact ⟨by first | rfl | (simp; done) | (simp [*]; done), by repeat (first | exact za3.refl _ | apply za3.step)⟩
end Go.Proofs.YtdifgiceallpiaaDoor.Pa
end
section
namespace Go.Proofs.YtdifgiceallpiaaDoor.Lab
open Go

/-- The same, where what is walked to the label ends at what follows it. -/
theorem wp_scope_meet {P : Program} {Q : Exit → Act → World → Prop} {a : Act} {w : World} {c R : Code} (l : Nat) (I : Nat → Act → World → Prop) (hf : findLabel c l = some (.seq .skip R))
    (pass : ∀ (QQ : Exit → Act → World → Prop) (n : Nat), (∀ a w, Q .ret a w → QQ .ret a w) → (∀ n' a w, n' < n → I n' a w → QQ (.goto l) a w) → ∀ a w, I n a w → R.wp P QQ a w)
    (first : ∀ (QQ : Exit → Act → World → Prop), (∀ a w, Q .ret a w → QQ .ret a w) → (∀ n a w, I n a w → R.wp P QQ a w) → c.wp P QQ a w) : (Code.scope c).wp P Q a w := by
  refine wp_scope_jumps l (fun a w => ∃ n, I n a w) (fun a w => leastOf (fun n => I n a w)) hf ?_ ?_
  · refine first (Exit.jump l (fun a w => ∃ n, I n a w) Q) (fun a w h => h) (fun n a w h => ?_)
    exact pass (Exit.jump l (fun a w => ∃ n, I n a w) Q) n (fun a w h => h) (fun n' a w _ h => ⟨rfl, n', h⟩) a w h
  · intro a w hJ
    refine wp_seq (wp_skip ?_)
    refine pass (Exit.jump l (fun a' w' => (∃ n, I n a' w') ∧ leastOf (fun n => I n a' w') < leastOf (fun n => I n a w)) Q) _ (fun a w h => h) (fun n' a' w' hlt h => ?_) a w (leastOf_spec hJ).1
    exact ⟨rfl, ⟨n', h⟩, Nat.lt_of_le_of_lt ((leastOf_spec ⟨n', h⟩).2 n' h) hlt⟩
end Go.Proofs.YtdifgiceallpiaaDoor.Lab
end
section
namespace Go.Proofs.YtdifgiceallpiaaDoor.Hd
open Go.RowKit YtdifgiceallpiaaDoorW.PrintWords YtdifgiceallpiaaDoorW.PrintLast YtdifgiceallpiaaDoorW.PrintMore YtdifgiceallpiaaDoor.Lab YtdifgiceallpiaaDoor.Pa
attribute [local go_sem] za9 za8 zbi zbj za0 za1 zba zbb
def zbm.more (s : ByteArray) (n i : Int) : Int := Go.bits .or .i64 n (wrap64 (wrap64 (Go.bits .and .u8 (bt s i) 127) * 2 ^ (7 * i).toNat))
def zbm.go (k : Nat) (s : ByteArray) : Nat → Int → Option (Int × ByteArray × Int)
 | 0, _ => some (0, (⟨#[]⟩ : ByteArray), 4)
 | d + 1, n =>
  if (4 - (d : Int)) = (s.size : Int) then some (0, (⟨#[]⟩ : ByteArray), 3)
  else if (4 - (d : Int)) < (s.size : Int) then
   (if bt s (4 - (d : Int)) > 127 then zbm.go k s d (zbm.more s n (4 - (d : Int)))
    else (za5.f k (zbm.more s n (4 - (d : Int)))).bind fun t =>
    if t = (4 - (d : Int)) + 1 then some (zbm.more s n (4 - (d : Int)), s.extract ((4 - (d : Int)) + 1).toNat s.size, 0) else some (0, (⟨#[]⟩ : ByteArray), 4))
  else none
def zbm.f (k : Nat) (a0 : ByteArray) : Option (Int × ByteArray × Int) := zbm.go k a0 5 0
theorem zbm.calls (k : Nat) (a0 : ByteArray) (r1 : Int) (r2 : ByteArray) (r3 : Int) (w : World) (h : zbm.f k a0 = some (r1, r2, r3)) :
  Calls Tryd.prog 57 #[.string a0] w fun e w' => e = .returned (.tuple #[.int .i64 r1, .string r2, .int .i64 r3]) ∧ za3 w w' := by
 unfold zbm.f at h
 have B := zaa.mk h
 clear h
 go_enter Tryd.func57, Tryd.ntmps57
 go_wp2
 refine wp_scope_meet (R := ?R) 0 (fun n a' w' => ∃ (x L : Int) (u1 u2 u3 u4 u7 u8 u9 u10 u11 u12 u13 u14 u15 u16 u17 u18 u19 u20 u21 u22 u23 u24 u25 u26 u27 u28 u29 u30 u31 u32 u33 u34 u35 u36 u37 u38 u39 : Value), zaa (L = 5 - (n : Int) ∧ 0 ≤ L ∧ zbm.go k a0 n x = some (r1, r2, r3)) ∧ za3 w w' ∧
     { tmps := #[.string a0, u1, u2, u3, u4, .int .i64 x, .int .i64 L, u7, u8, u9, u10, u11, u12, u13, u14, u15, u16, u17, u18, u19, u20, u21, u22, u23, u24, u25, u26, u27, u28, u29, u30, u31, u32, u33, u34, u35, u36, u37, u38, u39], defers := [] } = a') ?hf ?pass ?first
 case hf => rfl
 case first =>
  intro QQ hret hR
  go_wp2
  go_step3
  rename_i K hK
  exact hK _ _ (hR 5 _ _ ⟨0, 0, _, _, _, _, _, _, _, _, _, _, _, _, _, _, _, _, _, _, _, _, _, _, _, _, _, _, _, _, _, _, _, _, _, _, _, _, _, ⟨by omega, by omega, B.out⟩, by repeat (first | exact za3.refl _ | apply za3.step), rfl⟩)
 case pass =>
  intro QQ n hret hgoto a' w' hI
  obtain ⟨x, L, u1, u2, u3, u4, u7, u8, u9, u10, u11, u12, u13, u14, u15, u16, u17, u18, u19, u20, u21, u22, u23, u24, u25, u26, u27, u28, u29, u30, u31, u32, u33, u34, u35, u36, u37, u38, u39, hA, ⟨nd, rfl⟩, rfl⟩ := hI
  obtain ⟨hL, hL0, hgo⟩ := hA.out
  clear hA B
  cases n with
  | zero =>
   have t1 : (L == 5) = true := by rw [beq_iff_eq]; omega
   simp only [zbm.go, Option.some.injEq, Prod.mk.injEq] at hgo
   obtain ⟨rfl, rfl, rfl⟩ := hgo
   clear hL hL0
   go_wp2_with (go_step3)
   refine hret _ _ ?_
   go_ret3
   exact ⟨rfl, by repeat (first | exact za3.refl _ | apply za3.step)⟩
  | succ d =>
   have hL' : 4 - (d : Int) = L := by omega
   have hd : L ≤ 4 := by omega
   have t1 : (L == 5) = false := by rw [beq_eq_false_iff_ne]; omega
   simp only [zbm.go] at hgo
   rw [hL'] at hgo
   by_cases c1 : L = (a0.size : Int)
   ·rw [if_pos c1] at hgo
    simp only [Option.some.injEq, Prod.mk.injEq] at hgo
    obtain ⟨rfl, rfl, rfl⟩ := hgo
    have t2 : (L == (a0.size : Int)) = true := beq_iff_eq.mpr c1
    clear hL hL' c1 hd
    go_wp2_with (go_step3)
    refine hret _ _ ?_
    go_ret3
    exact ⟨rfl, by repeat (first | exact za3.refl _ | apply za3.step)⟩
   ·rw [if_neg c1] at hgo
    have t2 : (L == (a0.size : Int)) = false := beq_eq_false_iff_ne.mpr c1
    by_cases c2 : L < (a0.size : Int)
    ·rw [if_pos c2] at hgo
     have p6 := eq_true hL0
     have q6 := eq_true c2
     have hx6 := bt_at a0 L
     obtain ⟨j1, hj1⟩ : ∃ j_ : Int, Go.bits .and .u8 (bt a0 L) 127 = j_ := ⟨_, rfl⟩
     have hm : zbm.more a0 x L = Go.bits .or .i64 x (wrap64 (wrap64 j1 * 2 ^ (7 * L).toNat)) := by unfold zbm.more; rw [hj1]
     rw [hm] at hgo
     have g1 : (0 ≤ 7 * L) = True := eq_true (by omega)
     by_cases c3 : bt a0 L > 127
     ·rw [if_pos c3] at hgo
      have t3 : decide (127 < bt a0 L) = true := decide_eq_true c3
      have A := zaa.mk hgo
      have HL := zaa.mk hL
      have HL' := zaa.mk hL'
      clear hgo hL hL' c1 c3 hm
      go_wp2_with (go_step3)
      refine hgoto d _ _ (by omega) ⟨_, _, _, _, _, _, _, _, _, _, _, _, _, _, _, _, _, _, _, _, _, _, _, _, _, _, _, _, _, _, _, _, _, _, _, _, _, _, _, ⟨?_, by omega, A.out⟩, by repeat (first | exact za3.refl _ | apply za3.step), rfl⟩
      have := HL.out
      omega
     ·rw [if_neg c3] at hgo
      have t3 : decide (127 < bt a0 L) = false := decide_eq_false c3
      obtain ⟨t, A0, hgo⟩ := Option.bind_eq_some_iff.mp hgo
      have A := zaa.mk A0
      have HL := zaa.mk hL
      have HL' := zaa.mk hL'
      by_cases c4 : t = L + 1
      ·rw [if_pos c4] at hgo
       simp only [Option.some.injEq, Prod.mk.injEq] at hgo
       obtain ⟨rfl, rfl, rfl⟩ := hgo
       have t4 : (t == L + 1) = true := beq_iff_eq.mpr c4
       have t4' : (t != L + 1) = false := bne_eq_false_iff_eq.mpr c4
       have p7 : decide (0 ≤ L + 1) = true := decide_eq_true (by omega)
       have q7 : decide (L + 1 ≤ (a0.size : Int)) = true := decide_eq_true (by omega)
       clear A0 hL hL' c1 c3 c4 hm
       go_wp2_with (first | go_step3 | (go_at_call 25; (with_reducible refine (za5.calls k _ t _ A.out).mono ?_); rintro e w' ⟨rfl, ⟨nd2, rfl⟩⟩))
       repeat (go_quiet (fail); try go_wp2)
       refine hret _ _ ?_
       go_ret3
       exact ⟨rfl, by repeat (first | exact za3.refl _ | apply za3.step)⟩
      ·rw [if_neg c4] at hgo
       simp only [Option.some.injEq, Prod.mk.injEq] at hgo
       obtain ⟨rfl, rfl, rfl⟩ := hgo
       have t4 : (t == L + 1) = false := beq_eq_false_iff_ne.mpr c4
       have t4' : (t != L + 1) = true := bne_iff_ne.mpr c4
       clear A0 hL hL' c1 c3 c4 hm
       go_wp2_with (first | go_step3 | (go_at_call 25; (with_reducible refine (za5.calls k _ t _ A.out).mono ?_); rintro e w' ⟨rfl, ⟨nd2, rfl⟩⟩))
       refine hret _ _ ?_
       go_ret3
       exact ⟨rfl, by repeat (first | exact za3.refl _ | apply za3.step)⟩
    ·rw [if_neg c2] at hgo
     exact absurd hgo (by simp)
end Go.Proofs.YtdifgiceallpiaaDoor.Hd
end
section
-- Laid by this session's driver (wip/tools/myprint.py) over the kit's print program.
namespace Go.Proofs.YtdifgiceallpiaaDoor.Pa
end Go.Proofs.YtdifgiceallpiaaDoor.Pa
namespace Go.Proofs.YtdifgiceallpiaaDoor.Hd
end Go.Proofs.YtdifgiceallpiaaDoor.Hd
namespace Go.Proofs.YtdifgiceallpiaaDoor.P
open Go.RowKit YtdifgiceallpiaaDoor.Pa YtdifgiceallpiaaDoor.Hd YtdifgiceallpiaaDoorW.PrintWords YtdifgiceallpiaaDoorW.PrintLast YtdifgiceallpiaaDoorW.PrintMore
attribute [local go_sem] za9 za8 zbi zbj za0 za1 zba zbb   -- for this text's walks alone
def zbs.l0 : Nat → Int → Int → List Int → Int → Int → Option (ByteArray × Int)
 | 0, _, _, _, _, _ => none
 | k + 1, x0, x4, x5, x14, x15 => if x15 < x14 then (if 0 ≤ x15 then (if x15 < (x5.length : Int) then (zbs.l0 k (x0 / 128) x4 (x5.set (x15 : Int).toNat (Go.bits .or .u8 ((Go.bits .and .i64 x0 127) % 256) 128)) x14 (wrap64 (x15 + 1))) else (none)) else (none)) else (if 0 ≤ (wrap64 (x4 - 1)) then (if (wrap64 (x4 - 1)) < (x5.length : Int) then (some (strOfNums (x5.set ((wrap64 (x4 - 1)) : Int).toNat (Go.bits .and .u8 (rd x5 (wrap64 (x4 - 1))) 127)), 0)) else (none)) else (none))
def zbs.f (k : Nat) (a0 : Int) : Option (ByteArray × Int) := (za5.f k a0).bind fun t175 => (if t175 = 0 then (some ((⟨#[]⟩ : ByteArray), 2)) else (if 0 ≤ t175 then (if (t175 : Int).toNat ≤ 281474976710656 then ((some (List.replicate (t175 : Int).toNat 0 : List Int)).bind fun y176 => (zbs.l0 k a0 t175 y176 (y176.length : Int) 0)) else (none)) else (none)))
theorem zbs.calls (k : Nat) (a0 : Int) (r1 : ByteArray) (r2 : Int) (w : World) (h : zbs.f k a0 = some (r1, r2)) :
  Calls Tryd.prog 12 #[.int .i64 a0] w fun e w' => e = .returned (.tuple #[.string r1, .int .i64 r2]) ∧ Below w.heap.size w w' := by
 have HB := zaa.mk (Below.refl w.heap.size w)
 have H : ((za5.f k a0).bind fun t175 => (if t175 = 0 then (some ((⟨#[]⟩ : ByteArray), 2)) else (if 0 ≤ t175 then (if (t175 : Int).toNat ≤ 281474976710656 then ((some (List.replicate (t175 : Int).toNat 0 : List Int)).bind fun y176 => (zbs.l0 k a0 t175 y176 (y176.length : Int) 0)) else (none)) else (none)))) = some (r1, r2) := h
 clear h
 replace H := Option.bind_eq_some_iff.mp H
 obtain ⟨t175, A20, H⟩ := H
 have A2 := zaa.mk A20
 clear A20
 by_cases c3 : t175 = 0
 ·rw [if_pos c3] at H
  have c3b0 : (t175 == 0) = true := beq_iff_eq.mpr c3
  have c3b1 : (t175 != 0) = false := bne_eq_false_iff_eq.mpr c3
  clear c3
  simp only [Option.some.injEq, Prod.mk.injEq] at H
  obtain ⟨rfl, rfl⟩ := H
  go_enter Tryd.func12, Tryd.ntmps12
  go_wp2_with (first | ((with_reducible refine zbc (f := 25) rfl ?_); refine zb6 (some 8) rfl rfl Tryd.func25 (by kernel_rfl) rfl #[.int .i64 a0] rfl (by (try simp only [List.map_toArray, List.map_cons, List.map_nil]); first | done | rfl | (simp only [List.length_drop, List.length_take]; rfl)) ?_; (with_reducible refine (za5.calls k a0 t175 _ A2.out).mono ?_); rintro e w' ⟨rfl, ⟨nd, rfl⟩⟩; refine ⟨_, rfl, ?_⟩))
  go_ret2
  exact ⟨by first | rfl | (simp [errW_none, errW_some] <;> rfl) | (simp [*, errW_none, errW_some] <;> rfl), by repeat (first | exact HB.out | apply zac | apply zab | apply zad)⟩
 ·rw [if_neg c3] at H
  have c3b0 : (t175 == 0) = false := beq_eq_false_iff_ne.mpr c3
  have c3b1 : (t175 != 0) = true := bne_iff_ne.mpr c3
  by_cases c4 : 0 ≤ t175
  ·rw [if_pos c4] at H
   have c4b0 := eq_true c4
   have c4b1 : decide (0 ≤ t175) = true := decide_eq_true c4
   clear c4
   by_cases c5 : (t175 : Int).toNat ≤ 281474976710656
   ·rw [if_pos c5] at H
    have c5b0 := eq_true c5
    have c5b1 : decide ((t175 : Int).toNat ≤ 281474976710656) = true := decide_eq_true c5
    clear c5
    obtain ⟨y176, hy176⟩ : ∃ y_ : List Int, y_ = (List.replicate (t175 : Int).toNat 0) := ⟨_, rfl⟩
    replace H : (zbs.l0 k a0 t175 y176 (y176.length : Int) 0) = some (r1, r2) := by first | (rw [hy176]; with_reducible exact H) | (have H2_ := (Option.bind_some _ _).symm.trans H; rw [hy176]; with_reducible exact H2_) | (have H2_ := (Option.bind_some _ _).symm.trans H; with_reducible exact H2_) | with_reducible exact H | (rw [hy176]; exact H) | exact H
    have Ny176 := zaa.mk hy176
    clear hy176
    have H' := zaa.mk H
    clear H
    go_enter Tryd.func12, Tryd.ntmps12
    go_wp2_with (first | ((with_reducible refine zbc (f := 25) rfl ?_); refine zb6 (some 8) rfl rfl Tryd.func25 (by kernel_rfl) rfl #[.int .i64 a0] rfl (by (try simp only [List.map_toArray, List.map_cons, List.map_nil]); first | done | rfl | (simp only [List.length_drop, List.length_take]; rfl)) ?_; (with_reducible refine (za5.calls k a0 t175 _ A2.out).mono ?_); rintro e w' ⟨rfl, ⟨nd, rfl⟩⟩; refine ⟨_, rfl, ?_⟩) | ((with_reducible refine zay (N := 12) rfl ?_); refine Kd.R_make (Kd.int .u8) _ 5 rfl (N := 12) rfl 48 _ _ rfl t175 rfl rfl Tryd.underlying48 (.int .u8 0) 1 info5 rfl (by decide) (by omega) 0 (ok := fun _ => True) (okp := fun _ => True) rfl (fun _ hk => hk) trivial (of_decide_eq_true (by first | (with_reducible assumption) | assumption)) (Nat.le_trans (Nat.mul_le_mul_right _ (of_decide_eq_true (by first | (with_reducible assumption) | assumption) : t175.toNat ≤ 281474976710656)) (by omega)) (Below.refl _ _) (Nat.le_refl _) ?_; intro v177 w6 ho7 hb hg_ hnew_; clear hg_ hnew_; (first | rw [← Ny176.out] at ho7 | (simp only [Int.reduceToNat] at ho7; rw [← Ny176.out] at ho7)); have n0_ := zaa.mk (Kd.R_lower ho7 (zam (by repeat (first | exact HB.out | apply zac | apply zab | apply zad)))); have n1_ := zaa.mk (zaf (by repeat (first | exact HB.out | apply zac | apply zab | apply zad)) hb); clear HB; have HO178 := n0_; have HB := n1_; clear n0_ n1_; clear hb ho7; obtain ⟨Ao8, co8, eo8⟩ := Kd.R_slice HO178.out; subst eo8))
    go_loopg [0, 15] k (fun kq v0 v15 w' => ∃ (x0_1 : Int) (x5_1 : List Int) (x15_1 : Int), v0 = .int .i64 x0_1 ∧ v15 = .int .i64 x15_1 ∧ zaa (zbs.l0 kq x0_1 t175 x5_1 (y176.length : Int) x15_1 = some (r1, r2)) ∧ zaa (kq ≤ k) ∧ zaa (Kd.R (Kd.int .u8) 5 w' w.heap.size (fun _ => True) (.slice Ao8 y176.length co8) x5_1) ∧ zaa (Below w.heap.size w w'))
    case atStart => exact ⟨(a0), (y176), (0), rfl, rfl, H', ⟨Nat.le_refl _⟩, ⟨by (with_reducible repeat (first | apply Kd.R_alloc | apply Kd.R_drewN | apply Kd.R_drew)); exact HO178.out⟩, ⟨by repeat (first | exact HB.out | apply zac | apply zab | apply zad)⟩⟩
    case round =>
     clear H'
     obtain ⟨x0_1, x5_1, x15_1, rfl, rfl, HA, HK1, HO_5, HB⟩ := hrel
     have hl5_1 := (Kd.R_reads' HO_5.out).1
     rw [hl5_1] at HO_5
     (try simp only [hl5_1])
     cases gk with
     | zero => exact absurd HA.out (by simp [zbs.l0])
     | succ k1 =>
      have H := HA.out
      clear HA
      simp only [zbs.l0] at H
      by_cases c9 : x15_1 < (y176.length : Int)
      ·rw [if_pos c9] at H
       have c9b0 : decide (x15_1 < (y176.length : Int)) = true := decide_eq_true c9
       (try rw [hl5_1] at c9b0)
       clear c9
       by_cases c10 : 0 ≤ x15_1
       ·rw [if_pos c10] at H
        have c10b0 : decide (0 ≤ x15_1) = true := decide_eq_true c10
        (try rw [hl5_1] at c10b0)
        clear c10
        by_cases c11 : x15_1 < (x5_1.length : Int)
        ·rw [if_pos c11] at H
         have c11b0 : decide (x15_1 < (x5_1.length : Int)) = true := decide_eq_true c11
         (try rw [hl5_1] at c11b0)
         clear c11
         obtain ⟨y179, hy179⟩ : ∃ y_ : List Int, y_ = (x5_1.set (x15_1 : Int).toNat (Go.bits .or .u8 ((Go.bits .and .i64 x0_1 127) % 256) 128)) := ⟨_, rfl⟩
         replace H : (zbs.l0 k1 (x0_1 / 128) t175 y179 (y176.length : Int) (wrap64 (x15_1 + 1))) = some (r1, r2) := by first | (rw [hy179]; with_reducible exact H) | (have H2_ := (Option.bind_some _ _).symm.trans H; rw [hy179]; with_reducible exact H2_) | (have H2_ := (Option.bind_some _ _).symm.trans H; with_reducible exact H2_) | with_reducible exact H | (rw [hy179]; exact H) | exact H
         have Ny179 := zaa.mk hy179
         clear hy179
         have H' := zaa.mk H
         clear H
         have p12 : 0 ≤ (x15_1 : Int) := of_decide_eq_true (by first | (with_reducible assumption) | assumption)
         have q12 : (x15_1 : Int) < ((x5_1.length : Int) : Int) := of_decide_eq_true (by first | (with_reducible assumption) | assumption)
         obtain ⟨go12, co12, eo12, gb12, gl12, cl12, HG12⟩ := Kd.R_form HO_5.out (by omega)
         (first | cases eo12 | (injection eo12 with ea_ en_ ec_; (first | subst ea_ | (injection ea_ with ea_; subst ea_)); subst ec_; clear en_))
         have GB12 := zaa.mk gb12
         have GG12 := zaa.mk HG12
         clear gb12 gl12 HG12
         obtain ⟨hx12_0, hf12_0⟩ := Kd.R_celln 0 HO_5.out (x15_1 : Int) p12 q12
         replace p12 := eq_true p12
         replace q12 := eq_true q12
         have HP13 := Kd.R_putg HO_5.out (x15_1 : Int) (Go.bits .or .u8 ((Go.bits .and .i64 x0_1 127) % 256) 128)
         go_wp2_with (first | ((with_reducible refine zbx (t := 5) (p := 24) rfl ?_); refine store_event (t := 5) (p := 24) (v := ?vo_w14) (w1 := (wr.setCell ⟨go12, (x15_1 : Int).toNat, none⟩ (.int .u8 (Go.bits .or .u8 ((Go.bits .and .i64 x0_1 127) % 256) 128)))) ?hg ?ho ?hn ?hr ?_; (case ho => rfl); (case hg => rfl); (case hn => rfl); (case hr => first | (go_simp; done) | (go_simp; rfl)); intro w14 hw; have hg : wr.grownBy w14 (some go12) := (by rw [hw]; exact HP13.2); have hp_ : Kd.R (Kd.int .u8) 5 w14 w.heap.size (fun _ => True) (.slice (some ⟨go12, 0, none⟩) x5_1.length co8) y179 := (by rw [hw, Ny179.out]; exact HP13.1); clear HP13; have n0_ := zaa.mk (hp_); have n1_ := zaa.mk ((by rw [hw]; exact zat (HB.out) GB12.out : Below w.heap.size w w14)); clear HO_5; clear HB; have HO_5 := n0_; have HB := n1_; clear n0_ n1_; clear hg hw hp_))
         (try simp only [← hl5_1])
         go_roundg k1
         case measure => have := HK1.out; omega
         case rel => exact ⟨(x0_1 / 128), (y179), (wrap64 (x15_1 + 1)), rfl, rfl, H', ⟨by have := HK1.out; omega⟩, ⟨by (try simp only [hl5_1]); (with_reducible repeat (first | apply Kd.R_alloc | apply Kd.R_drewN | apply Kd.R_drew)); exact HO_5.out⟩, ⟨by repeat (first | exact HB.out | apply zac | apply zab | apply zad)⟩⟩
        ·rw [if_neg c11] at H
         exact absurd H (by simp)
       ·rw [if_neg c10] at H
        exact absurd H (by simp)
      ·rw [if_neg c9] at H
       have c9b0 : decide (x15_1 < (y176.length : Int)) = false := decide_eq_false c9
       (try rw [hl5_1] at c9b0)
       clear c9
       obtain ⟨ji15, hji15⟩ : ∃ j_ : Int, (wrap64 (t175 - 1)) = j_ := ⟨_, rfl⟩
       replace H : (if 0 ≤ (ji15) then (if (ji15) < (x5_1.length : Int) then (some (strOfNums (x5_1.set ((ji15) : Int).toNat (Go.bits .and .u8 (rd x5_1 (ji15)) 127)), 0)) else (none)) else (none)) = some (r1, r2) := by first | (rw [hji15] at H; exact H) | (simp only [hji15] at H ⊢; exact H)
       have hji15w : (IntKind.i64.wrap (t175 - 1)) = ji15 := (i64_w _).trans hji15
       by_cases c16 : 0 ≤ (ji15)
       ·rw [if_pos c16] at H
        have c16b0 : decide (0 ≤ (ji15)) = true := decide_eq_true c16
        (try rw [hl5_1] at c16b0)
        clear c16
        by_cases c17 : (ji15) < (x5_1.length : Int)
        ·rw [if_pos c17] at H
         have c17b0 : decide ((ji15) < (x5_1.length : Int)) = true := decide_eq_true c17
         (try rw [hl5_1] at c17b0)
         clear c17
         obtain ⟨y181, hy181⟩ : ∃ y_ : List Int, y_ = (x5_1.set ((ji15) : Int).toNat (Go.bits .and .u8 (rd x5_1 (ji15)) 127)) := ⟨_, rfl⟩
         replace H : (some (strOfNums y181, 0)) = some (r1, r2) := by first | (rw [hy181]; with_reducible exact H) | (have H2_ := (Option.bind_some _ _).symm.trans H; rw [hy181]; with_reducible exact H2_) | (have H2_ := (Option.bind_some _ _).symm.trans H; with_reducible exact H2_) | with_reducible exact H | (rw [hy181]; exact H) | exact H
         have Ny181 := zaa.mk hy181
         clear hy181
         simp only [Option.some.injEq, Prod.mk.injEq] at H
         obtain ⟨rfl, rfl⟩ := H
         have p180 : 0 ≤ ((ji15) : Int) := of_decide_eq_true (by first | (with_reducible assumption) | assumption)
         have q180 : (ji15) < (x5_1.length : Int) := of_decide_eq_true (by first | (with_reducible assumption) | assumption)
         obtain ⟨ad180, e180, hx180_0⟩ := Kd.at_int (Kd.R_reads' HO_5.out).2.2 (ji15) p180 q180
         cases e180
         replace p180 := eq_true p180
         replace q180 := eq_true q180
         have p18 : 0 ≤ ((ji15) : Int) := of_decide_eq_true (by first | (with_reducible assumption) | assumption)
         have q18 : ((ji15) : Int) < ((x5_1.length : Int) : Int) := of_decide_eq_true (by first | (with_reducible assumption) | assumption)
         obtain ⟨go18, co18, eo18, gb18, gl18, cl18, HG18⟩ := Kd.R_form HO_5.out (by omega)
         (first | cases eo18 | (injection eo18 with ea_ en_ ec_; (first | subst ea_ | (injection ea_ with ea_; subst ea_)); subst ec_; clear en_))
         have GB18 := zaa.mk gb18
         have GG18 := zaa.mk HG18
         clear gb18 gl18 HG18
         (first | simp only [add_plain] at hx180_0 | skip)
         obtain ⟨hx18_0, hf18_0⟩ := Kd.R_celln 0 HO_5.out ((ji15) : Int) p18 q18
         replace p18 := eq_true p18
         replace q18 := eq_true q18
         have HP19 := Kd.R_putg HO_5.out ((ji15) : Int) (Go.bits .and .u8 (rd x5_1 (ji15)) 127)
         go_wp2_with (first | ((with_reducible refine zbx (t := 5) (p := 34) rfl ?_); refine store_event (t := 5) (p := 34) (v := ?vo_w20) (w1 := (wr.setCell ⟨go18, ((ji15) : Int).toNat, none⟩ (.int .u8 (Go.bits .and .u8 (rd x5_1 (ji15)) 127)))) ?hg ?ho ?hn ?hr ?_; (case ho => rfl); (case hg => rfl); (case hn => rfl); (case hr => first | (go_simp; done) | (go_simp; rfl)); intro w20 hw; have hg : wr.grownBy w20 (some go18) := (by rw [hw]; exact HP19.2); have hp_ : Kd.R (Kd.int .u8) 5 w20 w.heap.size (fun _ => True) (.slice (some ⟨go18, 0, none⟩) x5_1.length co8) y181 := (by rw [hw, Ny181.out]; exact HP19.1); clear HP19; have n0_ := zaa.mk (hp_); have n1_ := zaa.mk ((by rw [hw]; exact zat (HB.out) GB18.out : Below w.heap.size w w20)); clear HO_5; clear HB; have HO_5 := n0_; have HB := n1_; clear n0_ n1_; clear hg hw hp_; have hcv21 := own_string (P := Tryd.prog) Tryd.underlying48 Tryd.underlying5 Tryd.underlying9 (Kd.own_of_R HO_5.out)))
         go_ret2
         exact ⟨by first | rfl | (simp [errW_none, errW_some] <;> rfl) | (simp only [← hji15]; first | rfl | (simp [errW_none, errW_some] <;> rfl)) | (simp [*, errW_none, errW_some] <;> rfl), by repeat (first | exact HB.out | apply zac | apply zab | apply zad)⟩
        ·rw [if_neg c17] at H
         exact absurd H (by simp)
       ·rw [if_neg c16] at H
        exact absurd H (by simp)
   ·rw [if_neg c5] at H
    exact absurd H (by simp)
  ·rw [if_neg c4] at H
   exact absurd H (by simp)
end Go.Proofs.YtdifgiceallpiaaDoor.P
end
section
namespace Go.Proofs.YtdifgiceallpiaaDoor.Pure
open Go.RowKit YtdifgiceallpiaaDoorW.PrintWords YtdifgiceallpiaaDoorW.PrintMore YtdifgiceallpiaaDoor.Pa YtdifgiceallpiaaDoor.Hd YtdifgiceallpiaaDoor.P YtdifgiceallpiaaDoor.Com
def en (n : Nat) : List Nat := if h : n < 128 then [n] else (128 + n % 128) :: en (n / 128)
termination_by n
decreasing_by omega
theorem en_small {n : Nat} (h : n < 128) : en n = [n] := by rw [en]; simp [h]
theorem en_big {n : Nat} (h : 128 ≤ n) : en n = (128 + n % 128) :: en (n / 128) := by rw [en]; simp [Nat.not_lt.2 h]
theorem en_pos (n : Nat) : 1 ≤ (en n).length := by
 by_cases h : n < 128
 ·rw [en_small h]; simp
 ·rw [en_big (by omega)]; simp
theorem en_lt (n : Nat) : ∀ x ∈ en n, x < 256 := by
 induction n using Nat.strongRecOn with
 | _ n ih =>
  by_cases h : n < 128
  ·rw [en_small h]; intro x hx; simp at hx; omega
  ·rw [en_big (by omega)]
   intro x hx
   rcases List.mem_cons.1 hx with rfl | hx
   ·omega
   ·exact ih (n / 128) (by omega) x hx
theorem en_len (d : Nat) : ∀ n, n < 128 * 128 ^ d → (en n).length ≤ d + 1 := by
 induction d with
 | zero => intro n h; rw [en_small (by omega)]; simp
 | succ d ih =>
  intro n h
  by_cases hn : n < 128
  ·rw [en_small hn]; simp
  ·rw [en_big (by omega), List.length_cons]
   rw [Nat.pow_succ] at h
   have := ih (n / 128) (by omega)
   omega
theorem en_len5 {n : Nat} (h : n < 4294967296) : (en n).length ≤ 5 := en_len 4 n (by omega)
def bs (n : Nat) : ByteArray := strOfNums ((en n).map (fun x : Nat => (x : Int)))
theorem nb_bs (n : Nat) : nb (bs n) = en n := nb_str _ (en_lt n)
theorem bs_size (n : Nat) : (bs n).size = (en n).length := by rw [← zas, nb_bs]
def inR (n : Int) : Bool := decide (0 ≤ n ∧ n ≤ 4294967295)
def sz (n : Int) : Int := if inR n then ((en n.toNat).length : Int) else 0
theorem size_l0 (n : Nat) : ∀ c : Nat, c + n ≤ 1099511627776 → Ev (fun k => za5.l0 k ((n / 128 : Nat) : Int) (c : Int)) ((c + (en n).length - 1 : Nat) : Int) := by
 induction n using Nat.strongRecOn with
 | _ n ih =>
  intro c hc
  by_cases h : n < 128
  ·rw [en_small h]
   refine Ev.step (f := fun _ => some (c : Int)) (fun k => ?_) (Ev.some (by simp))
   simp only [za5.l0]
   rw [if_neg (by omega)]
  ·have hp := en_pos (n / 128)
   rw [en_big (by omega)]
   have := ih (n / 128) (by omega) (c + 1) (by omega)
   have e : c + 1 + (en (n / 128)).length - 1 = c + ((128 + n % 128) :: en (n / 128)).length - 1 := by simp only [List.length_cons]; omega
   rw [e] at this
   refine Ev.step (fun k => ?_) this
   simp only [za5.l0]
   rw [if_pos (by omega), w64 (x := (c : Int) + 1) (by omega) (by omega)]
   have e2 : ((n / 128 : Nat) : Int) / 128 = ((n / 128 / 128 : Nat) : Int) := by omega
   rw [e2]
   rfl
theorem size_ev (n : Int) : Ev (fun k => za5.f k n) (sz n) := by
 unfold sz
 by_cases h : 0 ≤ n ∧ n ≤ 4294967295
 ·have e : inR n = true := by simp [inR, h]
  rw [e, if_pos rfl]
  have h1 := size_l0 n.toNat 1 (by omega)
  have e1 : 1 + (en n.toNat).length - 1 = (en n.toNat).length := by omega
  rw [e1] at h1
  have e2 : ((n.toNat / 128 : Nat) : Int) = n / 128 := by omega
  rw [e2] at h1
  refine Ev.step (fun k => ?_) h1
  simp only [za5.f]
  rw [if_neg (by omega)]
  simp only [za5.j0]
  rw [if_neg (by simp; omega)]
  rfl
 ·have e : inR n = false := by simp [inR]; omega
  rw [e, if_neg (by simp)]
  refine Ev.step (f := fun _ => some 0) (fun k => ?_) (Ev.now _)
  simp only [za5.f]
  by_cases h1 : n < 0
  ·rw [if_pos h1]; simp only [za5.j0]; rfl
  ·rw [if_neg h1]; simp only [za5.j0]; rw [if_pos (by simp; omega)]
def hi : Nat → Nat → List Int
 | 0, _ => []
 | d + 1, n => ((128 + n % 128 : Nat) : Int) :: hi d (n / 128)
theorem hi_length (d : Nat) : ∀ n, (hi d n).length = d := by
 induction d with
 | zero => intro n; rfl
 | succ d ih => intro n; simp [hi, ih]
theorem low7 (n : Nat) (h : n < 2 ^ 62) : Go.bits .and .i64 (n : Int) 127 = ((n % 128 : Nat) : Int) := by
 have := (bits_i64 n 127 (by omega) (by omega)).1
 rw [show n &&& 127 = n % 128 from Nat.and_two_pow_sub_one_eq_mod n 7] at this
 exact this
theorem low7b (n : Nat) (h : n < 256) : Go.bits .and .u8 (n : Int) 127 = ((n % 128 : Nat) : Int) := by
 have := (bits_u8 n 127 (by omega) (by omega)).1
 rw [show n &&& 127 = n % 128 from Nat.and_two_pow_sub_one_eq_mod n 7] at this
 exact this
theorem or128 (n : Nat) (h : n < 128) : Go.bits .or .u8 (n : Int) 128 = ((128 + n : Nat) : Int) := by
 have := (bits_u8 n 128 (by omega) (by omega)).2
 rw [Nat.or_comm, or_join 128 n 7 (by omega) (by omega)] at this
 exact this
theorem hi_en (d : Nat) : ∀ n : Nat, (en n).length = d + 1 → ∀ pre : List Int, (pre ++ hi (d + 1) n).set (pre.length + d) (Go.bits .and .u8 ((pre ++ hi (d + 1) n).getD (pre.length + d) 0) 127) = pre ++ (en n).map (fun x : Nat => (x : Int)) := by
 induction d with
 | zero =>
  intro n h pre
  have hn : n < 128 := by
   refine Nat.lt_of_not_le fun hle => ?_
   rw [en_big hle, List.length_cons] at h
   have := en_pos (n / 128)
   omega
  rw [en_small hn]
  have e : (pre ++ hi (0 + 1) n).getD (pre.length + 0) 0 = ((128 + n % 128 : Nat) : Int) := by simp [hi, List.getD_eq_getElem?_getD]
  rw [e, low7b _ (by omega)]
  simp [hi]
  omega
 | succ d ih =>
  intro n h pre
  have hn : 128 ≤ n := by
   refine Nat.le_of_not_lt fun hlt => ?_
   rw [en_small hlt] at h
   simp at h
  rw [en_big hn] at h ⊢
  rw [List.length_cons] at h
  have := ih (n / 128) (by omega) (pre ++ [((128 + n % 128 : Nat) : Int)])
  have e1 : pre ++ hi (d + 1 + 1) n = pre ++ [((128 + n % 128 : Nat) : Int)] ++ hi (d + 1) (n / 128) := by simp [hi]
  have e2 : pre.length + (d + 1) = (pre ++ [((128 + n % 128 : Nat) : Int)]).length + d := by simp; omega
  rw [e1, e2, this]
  simp
theorem put_l0 (K : Nat) (n0 : Nat) (hK : (en n0).length = K + 1) (d : Nat) : ∀ (n : Nat) (pre : List Int), n ≤ 4294967295 → pre.length + d = K + 1 → pre ++ hi d n = hi (K + 1) n0 → K ≤ 8 →
  Ev (fun k => zbs.l0 k (n : Int) ((K + 1 : Nat) : Int) (pre ++ List.replicate d 0) ((K + 1 : Nat) : Int) (pre.length : Int)) (bs n0, 0) := by
 induction d with
 | zero =>
  intro n pre hn hp he hK8
  refine Ev.step (f := fun _ => some (bs n0, 0)) (fun k => ?_) (Ev.now _)
  have hl : (hi (K + 1) n0).length = K + 1 := hi_length _ _
  have he : pre = hi (K + 1) n0 := by rw [← he]; exact (List.append_nil pre).symm
  simp only [zbs.l0, List.replicate_zero, List.append_nil]
  rw [if_neg (by omega), w64 (x := ((K + 1 : Nat) : Int) - 1) (by omega) (by omega), if_pos (by omega), if_pos (by rw [he, hl]; omega), he]
  have e1 : (((K + 1 : Nat) : Int) - 1) = (K : Int) := by omega
  have := hi_en K n0 hK []
  simp only [List.nil_append, List.length_nil, Nat.zero_add] at this
  rw [e1, rd_nat]
  have e2 : ((K : Nat) : Int).toNat = K := by simp
  rw [e2, this]
  rfl
 | succ d ih =>
  intro n pre hn hp he hK8
  have := ih (n / 128) (pre ++ [((128 + n % 128 : Nat) : Int)]) (by omega) (by simp; omega) (by rw [← he]; simp [hi]) hK8
  refine Ev.step (fun k => ?_) this
  simp only [zbs.l0]
  rw [if_pos (by omega), if_pos (by omega), if_pos (by simp; omega), low7 n (by omega)]
  have e1 : ((n % 128 : Nat) : Int) % 256 = ((n % 128 : Nat) : Int) := by omega
  rw [e1, or128 _ (by omega), w64 (x := (pre.length : Int) + 1) (by omega) (by omega)]
  have e2 : (n : Int) / 128 = ((n / 128 : Nat) : Int) := by omega
  have e3 : ((pre.length : Nat) : Int).toNat = pre.length := by simp
  have e4 : (pre ++ List.replicate (d + 1) (0 : Int)).set pre.length ((128 + n % 128 : Nat) : Int) = pre ++ [((128 + n % 128 : Nat) : Int)] ++ List.replicate d 0 := by
   simp [List.replicate_succ]
  have e5 : ((pre.length : Int) + 1) = ((pre ++ [((128 + n % 128 : Nat) : Int)]).length : Int) := by simp
  rw [e2, e3, e4, e5]
def put (n : Int) : ByteArray × Int := if inR n then (bs n.toNat, 0) else (⟨#[]⟩, 2)
theorem put_ev (n : Int) : Ev (fun k => zbs.f k n) (put n) := by
 unfold put zbs.f
 refine Ev.bind (size_ev n) ?_
 unfold sz
 cases e : inR n with
 | false => exact Ev.ifp rfl (Ev.now _)
 | true =>
  simp [inR] at e
  simp only [if_true]
  have hp := en_pos n.toNat
  have h5 := en_len5 (n := n.toNat) (by omega)
  obtain ⟨K, hK⟩ : ∃ K, (en n.toNat).length = K + 1 := ⟨(en n.toNat).length - 1, by omega⟩
  refine Ev.ifn (by omega) (Ev.ifp (by omega) (Ev.ifp (by omega) ?_))
  have h := put_l0 K n.toNat hK (K + 1) n.toNat [] (by omega) (by simp) (by simp) (by omega)
  have en_ : ((n.toNat : Nat) : Int) = n := by omega
  rw [en_] at h
  refine Ev.congr (fun k => ?_) h
  simp only [Option.bind_some]
  rw [hK]
  simp
def val : List Nat → Nat
 | [] => 0
 | b :: t => b % 128 + 128 * val t
theorem val_snoc (l : List Nat) (b : Nat) : val (l ++ [b]) = val l + b % 128 * 128 ^ l.length := by
 induction l with
 | nil => simp [val]
 | cons a t ih =>
  simp only [List.cons_append, val, List.length_cons, Nat.pow_succ]
  rw [ih, Nat.mul_add]
  have : 128 * (b % 128 * 128 ^ t.length) = b % 128 * (128 ^ t.length * 128) := by ac_rfl
  omega
theorem val_lt (l : List Nat) : val l < 128 ^ l.length := by
 induction l with
 | nil => simp [val]
 | cons a t ih =>
  simp only [val, List.length_cons, Nat.pow_succ]
  omega
theorem val_en (n : Nat) : val (en n) = n := by
 induction n using Nat.strongRecOn with
 | _ n ih =>
  by_cases h : n < 128
  ·rw [en_small h]; simp [val]; omega
  ·rw [en_big (by omega)]
   simp only [val]
   rw [ih (n / 128) (by omega)]
   omega
def form : List Nat → Prop
 | [] => False
 | [b] => b < 128
 | b :: c :: t => (128 ≤ b ∧ b < 256) ∧ form (c :: t)
def rdS (s : ByteArray) : Nat → Int × ByteArray × Int
 | 0 => (0, ⟨#[]⟩, 4)
 | d + 1 =>
  if s.size ≤ 4 - d then (0, ⟨#[]⟩, 3)
  else if 128 ≤ (nb s).getD (4 - d) 0 then rdS s d
  else if (en (val ((nb s).take (4 - d + 1)))).length = 4 - d + 1 ∧ val ((nb s).take (4 - d + 1)) ≤ 4294967295 then ((val ((nb s).take (4 - d + 1)) : Int), s.extract (4 - d + 1) s.size, 0)
  else (0, ⟨#[]⟩, 4)
theorem take_snoc (l : List Nat) (i : Nat) (h : i < l.length) : l.take (i + 1) = l.take i ++ [l.getD i 0] := by
 rw [List.take_add_one, List.getElem?_eq_getElem h]
 simp [List.getD_eq_getElem?_getD, List.getElem?_eq_getElem h]
theorem more_eq (s : ByteArray) (i : Nat) (hi : i < s.size) (h4 : i ≤ 4) : zbm.more s ((val ((nb s).take i) : Nat) : Int) (i : Int) = ((val ((nb s).take (i + 1)) : Nat) : Int) := by
 have hl : i < (nb s).length := by rw [zas]; exact hi
 have hb : (nb s).getD i 0 < 256 := by
  have : (nb s).getD i 0 = (nb s)[i] := by simp [List.getD_eq_getElem?_getD, List.getElem?_eq_getElem hl]
  rw [this]
  exact nb_lt s _ (List.getElem_mem hl)
 rw [take_snoc _ _ hl, val_snoc, List.length_take_of_le (by omega)]
 unfold zbm.more
 rw [bt_nb, low7b _ hb]
 have hv := val_lt ((nb s).take i)
 rw [List.length_take_of_le (by omega)] at hv
 have e7 : (7 * (i : Int)).toNat = 7 * i := by omega
 have hp : 128 ^ i ≤ 268435456 ∧ (2 : Int) ^ (7 * i) = ((128 ^ i : Nat) : Int) ∧ 128 ^ i = 2 ^ (7 * i) := by
  have : ∀ i : Nat, i ≤ 4 → 128 ^ i ≤ 268435456 ∧ (2 : Int) ^ (7 * i) = ((128 ^ i : Nat) : Int) ∧ 128 ^ i = 2 ^ (7 * i) := by decide
  exact this i h4
 have hq : (nb s).getD i 0 % 128 * 128 ^ i ≤ 127 * 268435456 := Nat.mul_le_mul (by omega) hp.1
 rw [w64 (x := (((nb s).getD i 0 % 128 : Nat) : Int)) (by omega) (by omega), e7, hp.2.1]
 have e8 : (((nb s).getD i 0 % 128 : Nat) : Int) * ((128 ^ i : Nat) : Int) = (((nb s).getD i 0 % 128 * 128 ^ i : Nat) : Int) := by simp
 rw [e8, w64 (by omega) (by omega)]
 have := (bits_i64 (val ((nb s).take i)) ((nb s).getD i 0 % 128 * 128 ^ i) (by omega) (by omega)).2
 rw [this, Nat.or_comm, or_join _ _ (7 * i) (by rw [← hp.2.2]; exact Nat.mul_mod_left _ _) (by rw [← hp.2.2]; exact hv), Nat.add_comm]
theorem sz_iff (m L : Nat) (hL : 1 ≤ L) : sz (m : Int) = (L : Int) ↔ ((en m).length = L ∧ m ≤ 4294967295) := by
 unfold sz inR
 by_cases h : m ≤ 4294967295
 ·rw [decide_eq_true (by omega), if_pos rfl]
  simp [h]
  omega
 ·rw [decide_eq_false (by omega), if_neg (by simp)]
  constructor
  ·intro h'; omega
  ·intro h'; omega
theorem read_go (s : ByteArray) (d : Nat) : d ≤ 5 → 5 - d ≤ s.size → Ev (fun k => zbm.go k s d ((val ((nb s).take (5 - d)) : Nat) : Int)) (rdS s d) := by
 induction d with
 | zero =>
  intro _ _
  simp only [zbm.go, rdS]
  exact Ev.now _
 | succ d ih =>
  intro hd hs
  have e5 : 5 - (d + 1) = 4 - d := by omega
  rw [e5] at hs ⊢
  have ei : (4 - (d : Int)) = ((4 - d : Nat) : Int) := by omega
  simp only [zbm.go, rdS]
  rw [ei]
  by_cases h1 : s.size ≤ 4 - d
  ·rw [if_pos h1]
   exact Ev.ifp (by omega) (Ev.now _)
  ·rw [if_neg h1]
   refine Ev.ifn (by omega) (Ev.ifp (by omega) ?_)
   have hm := more_eq s (4 - d) (by omega) (by omega)
   rw [hm, bt_nb]
   by_cases h2 : 128 ≤ (nb s).getD (4 - d) 0
   ·rw [if_pos h2]
    refine Ev.ifp (by omega) ?_
    have := ih (by omega) (by omega)
    have e6 : 5 - d = 4 - d + 1 := by omega
    rw [e6] at this
    exact this
   ·rw [if_neg h2]
    refine Ev.ifn (by omega) (Ev.bind (size_ev _) ?_)
    have e7 : ((4 - d : Nat) : Int) + 1 = ((4 - d + 1 : Nat) : Int) := by omega
    have e8 : (((4 - d : Nat) : Int) + 1).toNat = 4 - d + 1 := by omega
    by_cases h3 : (en (val ((nb s).take (4 - d + 1)))).length = 4 - d + 1 ∧ val ((nb s).take (4 - d + 1)) ≤ 4294967295
    ·rw [if_pos h3]
     refine Ev.ifp (by rw [e7]; exact (sz_iff _ _ (by omega)).2 h3) ?_
     rw [e8]
     exact Ev.now _
    ·rw [if_neg h3]
     exact Ev.ifn (by rw [e7]; exact fun h => h3 ((sz_iff _ _ (by omega)).1 h)) (Ev.now _)
theorem read_ev (s : ByteArray) : Ev (fun k => zbm.f k s) (rdS s 5) := by
 have := read_go s 5 (by omega) (by omega)
 exact this
theorem getD_app_lt (a b : List Nat) (i : Nat) (h : i < a.length) : (a ++ b).getD i 0 = a.getD i 0 := by
 simp [List.getD_eq_getElem?_getD, List.getElem?_append_left h]
theorem en_at (n : Nat) : ∀ i, i < (en n).length → (i + 1 < (en n).length → 128 ≤ (en n).getD i 0) ∧ (i + 1 = (en n).length → (en n).getD i 0 < 128) := by
 induction n using Nat.strongRecOn with
 | _ n ih =>
  intro i hi
  by_cases h : n < 128
  ·rw [en_small h] at hi ⊢
   simp at hi
   subst hi
   simp
   exact h
  ·rw [en_big (by omega)] at hi ⊢
   rw [List.length_cons] at hi ⊢
   cases i with
   | zero =>
    have := en_pos (n / 128)
    refine ⟨fun _ => ?_, fun h' => by omega⟩
    show 128 ≤ 128 + n % 128
    omega
   | succ i =>
    have := ih (n / 128) (by omega) i (by omega)
    simp only [List.getD_cons_succ]
    exact ⟨fun h' => this.1 (by omega), fun h' => this.2 (by omega)⟩
theorem rdS_back (n : Nat) (hn : n ≤ 4294967295) (s t : ByteArray) (hs : nb s = en n ++ nb t) : ∀ d : Nat, d ≤ 5 → 5 - d < (en n).length → rdS s d = ((n : Int), t, 0) := by
 have h5 := en_len5 (n := n) (by omega)
 have hsz : s.size = (en n).length + t.size := by rw [← zas s, hs, List.length_append, zas]
 intro d
 induction d with
 | zero => intro _ h; omega
 | succ d ih =>
  intro hd hlt
  have e5 : 5 - (d + 1) = 4 - d := by omega
  rw [e5] at hlt
  simp only [rdS]
  rw [if_neg (by omega)]
  have hg : (nb s).getD (4 - d) 0 = (en n).getD (4 - d) 0 := by rw [hs]; exact getD_app_lt _ _ _ hlt
  have ha := en_at n (4 - d) hlt
  by_cases h2 : 4 - d + 1 < (en n).length
  ·rw [hg, if_pos (ha.1 h2)]
   exact ih (by omega) (by omega)
  ·have he : 4 - d + 1 = (en n).length := by omega
   have := ha.2 he
   rw [hg, if_neg (by omega)]
   have ht : (nb s).take (4 - d + 1) = en n := by rw [hs, he, List.take_left]
   rw [ht, val_en, he, if_pos ⟨rfl, hn⟩]
   have hx : s.extract (en n).length s.size = t := by
    refine nb_inj ?_
    rw [nb_extract, hs, List.drop_left, hsz]
    have : (en n).length + t.size - (en n).length = (nb t).length := by rw [zas]; omega
    rw [this, List.take_length]
   rw [hx]
end Go.Proofs.YtdifgiceallpiaaDoor.Pure
end
