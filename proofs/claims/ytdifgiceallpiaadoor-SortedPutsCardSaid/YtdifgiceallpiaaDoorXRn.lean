/- The range coder, plainly: what bits leave, and which bytes go. -/
import Derived.Test.YtdifgiceallpiaaDoorXCom
import Derived.Test.YtdifgiceallpiaaDoorXPx5
import Derived.Test.YtdifgiceallpiaaDoorXHw
import Derived.Deep.MidRow
import Derived.BigQuiet
import Derived.StillTailTactics
import Derived.Laws.BitsLemmas
import Derived.Defers
import Derived.Great.BuildSlice
set_option linter.unusedVariables false
set_option linter.unusedSimpArgs false
set_option linter.unusedSectionVars false
section
namespace Go.Proofs.YtdifgiceallpiaaDoor.Rn
open Go Go.RowKit Go.Proofs.YtdifgiceallpiaaDoorW.PrintWords Go.Proofs.YtdifgiceallpiaaDoor.Com
def mid (a b p : Nat) : Nat := a + (b - a) / 2048 * p
def tk (a b p : Nat) (bit : Bool) : Nat × Nat := if bit then (mid a b p + 1, b) else (a, mid a b p)
def sa (a : Nat) : Nat := a % 16777216 * 256
def sb (b : Nat) : Nat := b % 16777216 * 256 + 255
/-- Bytes that go, and what is left. -/
def norm : Nat → Nat → Nat → List Nat × Nat × Nat
  | 0, a, b => ([], a, b)
  | f + 1, a, b => if a / 16777216 = b / 16777216 then (a / 16777216 :: (norm f (sa a) (sb b)).1, (norm f (sa a) (sb b)).2) else ([], a, b)
theorem mid_le {a b p : Nat} (h : a ≤ b) (hp : p ≤ 2048) : a ≤ mid a b p ∧ mid a b p ≤ b := by
  unfold mid
  have h1 : (b - a) / 2048 * p ≤ (b - a) / 2048 * 2048 := Nat.mul_le_mul_left _ hp
  have h2 := Nat.div_mul_le_self (b - a) 2048
  omega
theorem mid_lt {a b p : Nat} (h : a < b) (hp : p < 2048) : mid a b p < b := by
  unfold mid
  by_cases e : (b - a) / 2048 = 0
  · rw [e]; omega
  · have h1 : (b - a) / 2048 * p ≤ (b - a) / 2048 * 2047 := Nat.mul_le_mul_left _ (by omega)
    have h2 := Nat.div_mul_le_self (b - a) 2048
    omega
theorem tk_ok {a b p : Nat} {bit : Bool} (h : a < b) (hp : p < 2048) : a ≤ (tk a b p bit).1 ∧ (tk a b p bit).1 ≤ (tk a b p bit).2 ∧ (tk a b p bit).2 ≤ b := by
  have h1 := mid_le (Nat.le_of_lt h) (Nat.le_of_lt hp)
  have h2 := mid_lt h hp
  unfold tk
  cases bit
  · exact ⟨Nat.le_refl _, h1.1, h1.2⟩
  · exact ⟨by show a ≤ mid a b p + 1; omega, by show mid a b p + 1 ≤ b; omega, Nat.le_refl _⟩
/-- So wide are the spans that have let so many bytes go. -/
def Wd (f a b : Nat) : Prop := a ≤ b ∧ b < 4294967296 ∧ 256 ^ (4 - f) ≤ b - a + 1 ∧ f ≤ 4
theorem Wd.start {a b : Nat} (h : a ≤ b) (hb : b < 4294967296) : Wd 4 a b := ⟨h, hb, by simp, Nat.le_refl _⟩
theorem Wd.zero {a b : Nat} (h : Wd 0 a b) : a / 16777216 ≠ b / 16777216 := by
  obtain ⟨h1, h2, h3, h4⟩ := h
  have e : 256 ^ (4 - 0) = 4294967296 := by decide
  rw [e] at h3
  omega
theorem Wd.step {f a b : Nat} (h : Wd (f + 1) a b) (e : a / 16777216 = b / 16777216) : Wd f (sa a) (sb b) := by
  obtain ⟨h1, h2, h3, h4⟩ := h
  have e4 : 4 - f = (4 - (f + 1)) + 1 := by omega
  unfold sa sb
  refine ⟨by omega, by omega, ?_, by omega⟩
  rw [e4, Nat.pow_succ]
  have h5 : b % 16777216 - a % 16777216 = b - a := by omega
  omega
theorem norm_end {f a b : Nat} (h : Wd f a b) : (norm f a b).2.1 / 16777216 ≠ (norm f a b).2.2 / 16777216 ∧ (norm f a b).2.1 < (norm f a b).2.2 ∧ (norm f a b).2.2 < 4294967296 ∧ ∀ x ∈ (norm f a b).1, x < 256 := by
  induction f generalizing a b with
  | zero =>
    have h0 := h.zero
    obtain ⟨h1, h2, _, _⟩ := h
    exact ⟨h0, by show a < b; omega, h2, by simp [norm]⟩
  | succ f ih =>
    rw [norm]
    by_cases e : a / 16777216 = b / 16777216
    · rw [if_pos e]
      obtain ⟨i1, i2, i3, i4⟩ := ih (h.step e)
      refine ⟨i1, i2, i3, fun x hx => ?_⟩
      rcases List.mem_cons.1 hx with rfl | hx
      · have := h.1; have := h.2.1; omega
      · exact i4 x hx
    · rw [if_neg e]
      obtain ⟨h1, h2, _, _⟩ := h
      exact ⟨e, by show a < b; omega, h2, by simp⟩
end Go.Proofs.YtdifgiceallpiaaDoor.Rn
end
section
namespace Go.Proofs.YtdifgiceallpiaaDoor.Hd
open Go.RowKit YtdifgiceallpiaaDoorW.PrintWords YtdifgiceallpiaaDoorW.PrintLast YtdifgiceallpiaaDoorW.PrintMore YtdifgiceallpiaaDoor.Hw YtdifgiceallpiaaDoor.Com YtdifgiceallpiaaDoor.Rn YtdifgiceallpiaaDoor.P
attribute [local go_sem] za9 za8 zbi zbj za0 za1 zba zbb
def Sp (W : World) (g : Nat) (t : TypeId) (rest : List Value) (a b : Int) : Prop := W.heap[g]? = some (.cells (Value.int .u64 a :: Value.int .u64 b :: rest).toArray t (0, 0))
section
variable {W W1 : World} {g : Nat} {t : TypeId} {rest : List Value} {a b : Int}
theorem Sp.cell0 (h : Sp W g t rest a b) : W.cell? ⟨g, 0, none⟩ = some (.int .u64 a) := (zah h 0).trans rfl
theorem Sp.cell1 (h : Sp W g t rest a b) : W.cell? ⟨g, 1, none⟩ = some (.int .u64 b) := (zah h 1).trans rfl
theorem Sp.free (h : Sp W g t rest a b) (i : Nat) : W.frozen? ⟨g, i, none⟩ = false := zao h i
theorem Sp.below (h : Sp W g t rest a b) (hb : Below W.heap.size W W1) : Sp W1 g t rest a b := za6 h hb
theorem Sp.grown (h : Sp W g t rest a b) {row : Option Nat} (hg : W.grownBy W1 row) (hne : some g ≠ row) : Sp W1 g t rest a b := zby h hg hne
theorem Sp.set0 (h : Sp W g t rest a b) (x : Int) : Sp (W.setCell ⟨g, 0, none⟩ (.int .u64 x)) g t rest x b := zb2 h 0 _ (by simp)
theorem Sp.set1 (h : Sp W g t rest a b) (x : Int) : Sp (W.setCell ⟨g, 1, none⟩ (.int .u64 x)) g t rest a x := zb2 h 1 _ (by simp)
theorem Sp.range (h : Sp W g t rest a b) : W.rangeAt g 0 [.int .u64 a, .int .u64 b] := by
 intro j v hv
 match j, hv with
 | 0, hv => simp at hv; subst hv; exact h.cell0
 | 1, hv => simp at hv; subst hv; exact h.cell1
end
theorem grown_refl (w : World) (row : Option Nat) : w.grownBy w row := ⟨rfl, rfl, rfl, Nat.le_refl _, fun _ _ _ => rfl⟩
theorem zcf {w w1 : World} (h : Below w.heap.size w w1) (row : Option Nat) : w.grownBy w1 row := ⟨h.os, h.tape, h.output, h.size, fun i hi _ => h.block i hi⟩
theorem grown_step {w w1 w2 : World} {row : Option Nat} (h : w.grownBy w1 row) (k : w1.grownBy w2 row) : w.grownBy w2 row :=
 ⟨k.os.trans h.os, k.tape.trans h.tape, k.output.trans h.output, Nat.le_trans h.size k.size, fun i hi hne => (k.block i (Nat.lt_of_lt_of_le hi h.size) hne).trans (h.block i hi hne)⟩
theorem zcn {w w1 : World} {g : Nat} (h : w.grownBy w1 (some g)) (i : Nat) (u : Value) : w.grownBy (w1.setCell ⟨g, i, none⟩ u) (some g) := grown_set h i u
theorem mid_f (a b p : Nat) (h : a ≤ b) (hb : b < 4294967296) (hp : p ≤ 2048) : zbp.f a b p = some (mid a b p : Int) := by
 have hm := mid_le h hp
 have e1 : IntKind.u64.wrap ((b : Int) - a) = ((b - a : Nat) : Int) := by rw [wu64 (by omega) (by omega)]; omega
 have e2 : Int.tdiv ((b - a : Nat) : Int) 2048 = (((b - a) / 2048 : Nat) : Int) := by
  rw [Int.tdiv_eq_ediv_of_nonneg (by omega)]; simp
 have h1 : (b - a) / 2048 * p ≤ b := by unfold mid at hm; omega
 have e3 : (((b - a) / 2048 : Nat) : Int) * (p : Int) = (((b - a) / 2048 * p : Nat) : Int) := by simp
 unfold zbp.f
 rw [e1, e2, wu64 (x := (((b - a) / 2048 : Nat) : Int)) (by omega) (by omega), wu64 (x := (p : Int)) (by omega) (by omega), e3, wu64 (x := (((b - a) / 2048 * p : Nat) : Int)) (by omega) (by omega), wu64 (by unfold mid at hm; omega) (by unfold mid at hm; omega)]
 unfold mid
 congr 1
theorem usz : (Tryd.prog.info? 127).map (·.size) = some 2 := by kernel_rfl
set_option maxHeartbeats 4000000 in
set_option maxRecDepth 100000 in
theorem take_calls (g : Nat) (t : TypeId) (rest : List Value) (a b p : Nat) (bit : Bool) (w : World) (hS : Sp w g t rest a b) (h : a ≤ b) (hb : b < 4294967296) (hp : p ≤ 2048) :
  Calls Tryd.prog 75 #[.pointer (some ⟨g, 0, none⟩), .int .i64 p, .bool bit] w fun e w' => e = .returned (.tuple #[]) ∧ Sp w' g t rest (tk a b p bit).1 (tk a b p bit).2 ∧ w.grownBy w' (some g) := by
 have S0 := zaa.mk hS
 have MF := zaa.mk (mid_f a b p h hb hp)
 have hm := (mid_le h hp).2
 have EM := zaa.mk (show IntKind.u64.wrap ((mid a b p : Int) + 1) = ((mid a b p + 1 : Nat) : Int) by rw [wu64 (by omega) (by omega)]; omega)
 clear hS h hb hp hm
 cases bit with
 | false =>
  go_enter Tryd.func75, Tryd.ntmps75
  go_wp2_with (first
   | ((with_reducible refine zay (N := 9) rfl ?_); refine wpList_load_mid rfl 127 (.tmp 8) rfl g 0 rfl [.int .u64 a, .int .u64 b] _ S0.out.range Tryd.underlying127 rfl usz ?_)
   | (go_at_call 78; (with_reducible refine (zbp.calls a b p _ _ MF.out).mono ?_); rintro e w1 ⟨rfl, hB⟩; have B1 := zaa.mk hB; have S1 := zaa.mk (S0.out.below hB); have hc0 := S1.out.cell0; have hc1 := S1.out.cell1; have hf0 := S1.out.free 0; have hf1 := S1.out.free 1; clear hB))
  first | go_end0 | ((try simp only [Exit.inBlock, Exit.then]); refine bodyPost_ret (results_none rfl _ _ _) rfl ?_)
  exact ⟨rfl, S1.out.set1 _, zcn (zcf B1.out _) _ _⟩
 | true =>
  go_enter Tryd.func75, Tryd.ntmps75
  go_wp2_with (first
   | ((with_reducible refine zay (N := 9) rfl ?_); refine wpList_load_mid rfl 127 (.tmp 8) rfl g 0 rfl [.int .u64 a, .int .u64 b] _ S0.out.range Tryd.underlying127 rfl usz ?_)
   | (go_at_call 78; (with_reducible refine (zbp.calls a b p _ _ MF.out).mono ?_); rintro e w1 ⟨rfl, hB⟩; have B1 := zaa.mk hB; have S1 := zaa.mk (S0.out.below hB); have hc0 := S1.out.cell0; have hc1 := S1.out.cell1; have hf0 := S1.out.free 0; have hf1 := S1.out.free 1; clear hB))
  first | go_end0 | ((try simp only [Exit.inBlock, Exit.then]); refine bodyPost_ret (results_none rfl _ _ _) rfl ?_)
  rw [EM.out]
  exact ⟨rfl, S1.out.set0 _, zcn (zcf B1.out _) _ _⟩
def shr1 (a b : Nat) : Nat × Bool × Nat × Nat := if a / 16777216 = b / 16777216 then (a / 16777216, true, sa a, sb b) else (0, false, a, b)
theorem low24 (a : Nat) (h : a < 4294967296) : Go.bits .and .u64 (a : Int) 16777215 = ((a % 16777216 : Nat) : Int) := by
 have := (bits_u64 a 16777215 (by omega) (by omega)).1
 have e : a &&& 16777215 = a % 16777216 := Nat.and_two_pow_sub_one_eq_mod a 24
 rw [e] at this
 exact this
theorem or255 (a : Nat) (h : a < 4294967296) : Go.bits .or .u64 ((a * 256 : Nat) : Int) 255 = ((a * 256 + 255 : Nat) : Int) := by
 have := (bits_u64 (a * 256) 255 (by omega) (by omega)).2
 rw [or_join (a * 256) 255 8 (by omega) (by omega)] at this
 exact this
set_option maxHeartbeats 4000000 in
set_option maxRecDepth 100000 in
theorem shift_calls (g : Nat) (t : TypeId) (rest : List Value) (a b : Nat) (w : World) (hS : Sp w g t rest a b) (ha : a < 4294967296) (hb : b < 4294967296) :
  Calls Tryd.prog 76 #[.pointer (some ⟨g, 0, none⟩)] w fun e w' => e = .returned (.tuple #[.int .u8 (shr1 a b).1, .bool (shr1 a b).2.1]) ∧ Sp w' g t rest (shr1 a b).2.2.1 (shr1 a b).2.2.2 ∧ w.grownBy w' (some g) := by
 have S0 := zaa.mk hS
 have hc0 := hS.cell0
 have hc1 := hS.cell1
 have hf0 := hS.free 0
 have hf1 := hS.free 1
 by_cases e : a / 16777216 = b / 16777216
 ·have e1 : shr1 a b = (a / 16777216, true, sa a, sb b) := if_pos e
  rw [e1]
  have t1 : ((a : Int) / 16777216 != (b : Int) / 16777216) = false := by rw [bne_eq_false_iff_eq]; omega
  have HA := zaa.mk (And.intro ha hb)
  clear hS ha hb e1 e
  go_enter Tryd.func76, Tryd.ntmps76
  have EA := zaa.mk (show IntKind.u64.wrap (Go.bits .and .u64 (a : Int) 16777215 * 256) = ((sa a : Nat) : Int) by
   rw [low24 a HA.out.1, wu64 (by omega) (by omega)]
   unfold sa; omega)
  have EB := zaa.mk (show Go.bits .or .u64 (IntKind.u64.wrap (Go.bits .and .u64 (b : Int) 16777215 * 256)) 255 = ((sb b : Nat) : Int) by
   have e2 : ((b % 16777216 : Nat) : Int) * 256 = ((b % 16777216 * 256 : Nat) : Int) := by omega
   rw [low24 b HA.out.2, e2, wu64 (by omega) (by omega), or255 _ (by omega)]
   rfl)
  have EC := zaa.mk (show (a : Int) / 16777216 % 256 = ((a / 16777216 : Nat) : Int) by have := HA.out; omega)
  go_wp2
  go_quiet (fail)
  go_wp2
  obtain ⟨w2, hw2⟩ : ∃ w2, w.drewN nq = w2 := ⟨_, rfl⟩
  have S2 := zaa.mk (show Sp (w.drewN nq) g t rest a b from S0.out)
  have GW := zaa.mk (zcf (zab (Below.refl w.heap.size w) nq) (some g))
  rw [hw2] at S2 GW
  rw [hw2]
  obtain ⟨XA, hXA⟩ : ∃ x, IntKind.u64.wrap (Go.bits .and .u64 (a : Int) 16777215 * 256) = x := ⟨_, rfl⟩
  rw [hXA] at EA
  have D2 := zaa.mk (show Sp w2.drew g t rest a b from S2.out)
  clear hw2 hc0 hc1 hf0 hf1
  subst hXA
  refine zcr (n := 21) (S := fun w' => w'.cell? ⟨g, 0, none⟩ = some (.int .u64 a) ∧ w'.cell? ⟨g, 1, none⟩ = some (.int .u64 b)) (ds := [17, 20]) #[false, false, false, false, false, false, false, false, false, false, false, false, false, false, false, false, false, false, false, false, false] (by kernel_rfl) rfl rfl ⟨D2.out.cell0, D2.out.cell1⟩ (fun hHeld => ?_)
  refine pure_ (i := 0) (N := some 22) (v := ?_) (a' := ?_) #[true, false, false, false, false, false, false, false, false, false, false, false, false, false, false, false, false, false, false, false, false] rfl rfl (by kernel_rfl) (fun _ _ _ h => h) (Or.inl ⟨by rfl, ?_⟩) ?_ ?_
  rotate_left
  ·intro w'
   go_simp
   with_reducible rfl
  rotate_left
  ·simp only [Act.put, sAt, sZr, sSc, i64_w, i32_w]
   rfl
  refine pure_ (i := 1) (N := some 23) (v := ?_) (a' := ?_) #[true, true, false, false, false, false, false, false, false, false, false, false, false, false, false, false, false, false, false, false, false] rfl rfl (by kernel_rfl) (fun _ _ _ h => h) (Or.inl ⟨by rfl, ?_⟩) ?_ ?_
  rotate_left
  ·intro w'
   go_simp
   with_reducible rfl
  rotate_left
  ·simp only [Act.put, sAt, sZr, sSc, i64_w, i32_w]
   rfl
  refine pure_ (i := 2) (N := some 24) (v := ?_) (a' := ?_) #[true, true, true, false, false, false, false, false, false, false, false, false, false, false, false, false, false, false, false, false, false] rfl rfl (by kernel_rfl) (fun _ _ _ h => h) (Or.inl ⟨by rfl, ?_⟩) ?_ ?_
  rotate_left
  ·intro w'
   go_simp
   with_reducible rfl
  rotate_left
  ·simp only [Act.put, sAt, sZr, sSc, i64_w, i32_w]
   rfl
  refine pure_ (i := 3) (N := some 25) (v := ?_) (a' := ?_) #[true, true, true, true, false, false, false, false, false, false, false, false, false, false, false, false, false, false, false, false, false] rfl rfl (by kernel_rfl) (fun _ _ _ h => h) (Or.inl ⟨by rfl, ?_⟩) ?_ ?_
  rotate_left
  ·intro w'
   go_simp
   with_reducible rfl
  rotate_left
  ·simp only [Act.put, sAt, sZr, sSc, i64_w, i32_w]
   rfl
  refine pure_ (i := 4) (N := some 26) (v := ?_) (a' := ?_) #[true, true, true, true, true, false, false, false, false, false, false, false, false, false, false, false, false, false, false, false, false] rfl rfl (by kernel_rfl) (fun _ _ _ h => h) (Or.inl ⟨by rfl, ?_⟩) ?_ ?_
  rotate_left
  ·intro w'
   go_simp
   with_reducible rfl
  rotate_left
  ·simp only [Act.put, sAt, sZr, sSc, i64_w, i32_w]
   rfl
  refine pure_ (i := 8) (N := some 30) (v := ?_) (a' := ?_) #[true, true, true, true, true, false, false, false, true, false, false, false, false, false, false, false, false, false, false, false, false] rfl rfl (by kernel_rfl) (fun _ _ _ h => h) (Or.inl ⟨by rfl, ?_⟩) ?_ ?_
  rotate_left
  ·intro w'
   go_simp
   with_reducible rfl
  rotate_left
  ·simp only [Act.put, sAt, sZr, sSc, i64_w, i32_w]
   rfl
  refine pure_ (i := 9) (N := some 31) (v := ?_) (a' := ?_) #[true, true, true, true, true, false, false, false, true, true, false, false, false, false, false, false, false, false, false, false, false] rfl rfl (by kernel_rfl) (fun _ _ _ h => h) (Or.inl ⟨by rfl, ?_⟩) ?_ ?_
  rotate_left
  ·intro w'
   go_simp
   with_reducible rfl
  rotate_left
  ·simp only [Act.put, sAt, sZr, sSc, i64_w, i32_w]
   rfl
  refine pure_ (i := 10) (N := some 32) (v := ?_) (a' := ?_) #[true, true, true, true, true, false, false, false, true, true, true, false, false, false, false, false, false, false, false, false, false] rfl rfl (by kernel_rfl) (fun _ _ _ h => h) (Or.inl ⟨by rfl, ?_⟩) ?_ ?_
  rotate_left
  ·intro w'
   go_simp
   with_reducible rfl
  rotate_left
  ·simp only [Act.put, sAt, sZr, sSc, i64_w, i32_w]
   rfl
  refine take_ (i := 5) (N := some 27) (v := ?_) (a' := ?_) #[true, true, true, true, true, true, false, false, true, true, true, false, false, false, false, false, false, false, false, false, false] rfl rfl (by kernel_rfl) (fun _ _ _ h => h) (Or.inl ⟨by rfl, ?_⟩) hHeld ?_ ?_
  rotate_left
  ·rintro w' ⟨s0, s1⟩
   go_simp
   with_reducible rfl
  rotate_left
  ·simp only [Act.put, sAt, sZr, sSc, i64_w, i32_w]
   rfl
  refine pure_ (i := 6) (N := some 28) (v := ?_) (a' := ?_) #[true, true, true, true, true, true, true, false, true, true, true, false, false, false, false, false, false, false, false, false, false] rfl rfl (by kernel_rfl) (fun _ _ _ h => h) (Or.inl ⟨by rfl, ?_⟩) ?_ ?_
  rotate_left
  ·intro w'
   go_simp
   with_reducible rfl
  rotate_left
  ·simp only [Act.put, sAt, sZr, sSc, i64_w, i32_w]
   rfl
  refine pure_ (i := 7) (N := some 29) (v := ?_) (a' := ?_) #[true, true, true, true, true, true, true, true, true, true, true, false, false, false, false, false, false, false, false, false, false] rfl rfl (by kernel_rfl) (fun _ _ _ h => h) (Or.inl ⟨by rfl, ?_⟩) ?_ ?_
  rotate_left
  ·intro w'
   go_simp
   with_reducible rfl
  rotate_left
  ·simp only [Act.put, sAt, sZr, sSc, i64_w, i32_w]
   rfl
  refine take_ (i := 11) (N := some 33) (v := ?_) (a' := ?_) #[true, true, true, true, true, true, true, true, true, true, true, true, false, false, false, false, false, false, false, false, false] rfl rfl (by kernel_rfl) (fun _ _ _ h => h) (Or.inl ⟨by rfl, ?_⟩) hHeld ?_ ?_
  rotate_left
  ·rintro w' ⟨s0, s1⟩
   go_simp
   with_reducible rfl
  rotate_left
  ·simp only [Act.put, sAt, sZr, sSc, i64_w, i32_w]
   rfl
  refine pure_ (i := 12) (N := some 34) (v := ?_) (a' := ?_) #[true, true, true, true, true, true, true, true, true, true, true, true, true, false, false, false, false, false, false, false, false] rfl rfl (by kernel_rfl) (fun _ _ _ h => h) (Or.inl ⟨by rfl, ?_⟩) ?_ ?_
  rotate_left
  ·intro w'
   go_simp
   with_reducible rfl
  rotate_left
  ·simp only [Act.put, sAt, sZr, sSc, i64_w, i32_w]
   rfl
  refine pure_ (i := 13) (N := some 35) (v := ?_) (a' := ?_) #[true, true, true, true, true, true, true, true, true, true, true, true, true, true, false, false, false, false, false, false, false] rfl rfl (by kernel_rfl) (fun _ _ _ h => h) (Or.inl ⟨by rfl, ?_⟩) ?_ ?_
  rotate_left
  ·intro w'
   go_simp
   with_reducible rfl
  rotate_left
  ·simp only [Act.put, sAt, sZr, sSc, i64_w, i32_w]
   rfl
  refine pure_ (i := 14) (N := some 36) (v := ?_) (a' := ?_) #[true, true, true, true, true, true, true, true, true, true, true, true, true, true, true, false, false, false, false, false, false] rfl rfl (by kernel_rfl) (fun _ _ _ h => h) (Or.inl ⟨by rfl, ?_⟩) ?_ ?_
  rotate_left
  ·intro w'
   go_simp
   with_reducible rfl
  rotate_left
  ·simp only [Act.put, sAt, sZr, sSc, i64_w, i32_w]
   rfl
  refine pure_ (i := 15) (N := some 37) (v := ?_) (a' := ?_) #[true, true, true, true, true, true, true, true, true, true, true, true, true, true, true, true, false, false, false, false, false] rfl rfl (by kernel_rfl) (fun _ _ _ h => h) (Or.inl ⟨by rfl, ?_⟩) ?_ ?_
  rotate_left
  ·intro w'
   go_simp
   with_reducible rfl
  rotate_left
  ·simp only [Act.put, sAt, sZr, sSc, i64_w, i32_w]
   rfl
  refine pure_ (i := 16) (N := some 38) (v := ?_) (a' := ?_) #[true, true, true, true, true, true, true, true, true, true, true, true, true, true, true, true, true, false, false, false, false] rfl rfl (by kernel_rfl) (fun _ _ _ h => h) (Or.inl ⟨by rfl, ?_⟩) ?_ ?_
  rotate_left
  ·intro w'
   go_simp
   with_reducible rfl
  rotate_left
  ·simp only [Act.put, sAt, sZr, sSc, i64_w, i32_w]
   rfl
  refine last_ (i := 17) (N := none) #[true, true, true, true, true, true, true, true, true, true, true, true, true, true, true, true, true, true, false, false, false] rfl rfl (by kernel_rfl) (by decide) (fun K hK => ?_)
  have hy0 := D2.out.cell0
  have hz0 := D2.out.free 0
  refine skip_ (w1 := ?_) (by rfl) rfl ?_ ?_
  rotate_left
  ·go_simp
   rfl
  refine hK.out _ _ ?_
  clear hK K
  refine pure_ (i := 18) (N := some 39) (v := ?_) (a' := ?_) #[true, true, true, true, true, true, true, true, true, true, true, true, true, true, true, true, true, true, true, false, false] rfl rfl (by kernel_rfl) (fun _ _ _ h => h) (Or.inl ⟨by rfl, ?_⟩) ?_ ?_
  rotate_left
  ·intro w'
   go_simp
   with_reducible rfl
  rotate_left
  ·simp only [Act.put, sAt, sZr, sSc, i64_w, i32_w]
   rfl
  refine pure_ (i := 19) (N := some 40) (v := ?_) (a' := ?_) #[true, true, true, true, true, true, true, true, true, true, true, true, true, true, true, true, true, true, true, true, false] rfl rfl (by kernel_rfl) (fun _ _ _ h => h) (Or.inl ⟨by rfl, ?_⟩) ?_ ?_
  rotate_left
  ·intro w'
   go_simp
   with_reducible rfl
  rotate_left
  ·simp only [Act.put, sAt, sZr, sSc, i64_w, i32_w]
   rfl
  refine last_ (i := 20) (N := none) #[true, true, true, true, true, true, true, true, true, true, true, true, true, true, true, true, true, true, true, true, true] rfl rfl (by kernel_rfl) (by decide) (fun K hK => ?_)
  have D3 := zaa.mk (D2.out.set0 (IntKind.u64.wrap (Go.bits .and .u64 (a : Int) 16777215 * 256)))
  have hy1 := D3.out.cell1
  have hz1 := D3.out.free 1
  have hy2 := S2.out.cell1
  have hz2 := S2.out.free 1
  refine skip_ (w1 := ?_) (by rfl) rfl ?_ ?_
  rotate_left
  ·go_simp
   rfl
  refine hK.out _ _ ?_
  clear hK K
  refine done_ (by kernel_rfl) ?_
  clear hHeld hy0 hz0 hy1 hz1 hy2 hz2
  go_wp2
  go_ret2
  have D4 := D3.out.set1 (Go.bits .or .u64 (IntKind.u64.wrap (Go.bits .and .u64 (b : Int) 16777215 * 256)) 255)
  rw [EA.out, EB.out] at *
  refine ⟨?_, D4, grown_step (zcn (zcn GW.out 0 _) 1 _) (zcf (zbl (Below.refl _ _)) _)⟩
  first | rfl | (rw [EC.out]; rfl)
 ·have e1 : shr1 a b = (0, false, a, b) := if_neg e
  rw [e1]
  have t1 : ((a : Int) / 16777216 != (b : Int) / 16777216) = true := by rw [bne_iff_ne]; omega
  clear hS ha hb e1 e
  go_enter Tryd.func76, Tryd.ntmps76
  go_wp2
  go_quiet (fail)
  go_wp2
  go_ret2
  exact ⟨rfl, S0.out, zcf (zab (Below.refl w.heap.size w) nq) (some g)⟩
end Go.Proofs.YtdifgiceallpiaaDoor.Hd
/- slices.ContainsFunc with ranger's bad; walked by hand. -/
namespace Go.Proofs.YtdifgiceallpiaaDoor.Hd
open Go.RowKit YtdifgiceallpiaaDoorW.PrintWords YtdifgiceallpiaaDoorW.PrintLast YtdifgiceallpiaaDoorW.PrintMore YtdifgiceallpiaaDoor.Hw YtdifgiceallpiaaDoor.Com YtdifgiceallpiaaDoor.Rn YtdifgiceallpiaaDoor.P
attribute [local go_sem] za9 za8 zbi zbj za0 za1 zba zbb
def badP (x : Int) : Bool := decide (x < 1 ∨ 2048 ≤ x)
theorem bad_f (x : Int) : zcm.f x = some (badP x) := by
 unfold zcm.f badP
 by_cases h : x < 1
 ·rw [if_pos h, decide_eq_true (Or.inl h)]
 ·rw [if_neg h]
  congr 1
  exact decide_eq_decide.2 ⟨fun e => Or.inr e, fun e => Or.elim e (fun h' => absurd h' h) id⟩
def idxF : List Int → Nat → Int
 | [], _ => -1
 | x :: t, i => if badP x then (i : Int) else idxF t (i + 1)
theorem idxF_any (l : List Int) : ∀ i, decide (idxF l i ≥ 0) = l.any badP := by
 induction l with
 | nil => intro i; rfl
 | cons x t ih =>
  intro i
  rw [idxF, List.any_cons]
  cases badP x with
  | false => rw [if_neg (by decide), ih]; rfl
  | true => rw [if_pos rfl, decide_eq_true (by omega)]; rfl
set_option maxHeartbeats 4000000 in
set_option maxRecDepth 100000 in
theorem index_calls (A0 : Option Addr) (c0 : Nat) (l : List Int) (w : World) (hr : Kd.C (Kd.int .i64) w A0 l.length l) (hl : l.length ≤ 1099511627776) :
  Calls Tryd.prog 72 #[.slice A0 l.length c0, .func (.func 52) #[] #[]] w fun e w' => e = .returned (.int .i64 (idxF l 0)) ∧ Below w.heap.size w w' := by
 have HR := zaa.mk hr
 have HLL := zaa.mk hl
 clear hr hl
 go_enter Tryd.func72, Tryd.ntmps72
 go_wp2
 go_loopg [8] l.length (fun q v8 w' => ∃ (L : Int) (m : Nat), v8 = .int .i64 L ∧ zaa (L = (m : Int) ∧ m + q = l.length ∧ idxF l 0 = idxF (l.drop m) m) ∧ zaa (Below w.heap.size w w'))
 case atStart => exact ⟨0, 0, rfl, ⟨rfl, by omega, rfl⟩, ⟨Below.refl _ _⟩⟩
 case round =>
  obtain ⟨L, m, rfl, HA, B1⟩ := hrel
  cases gk with
  | zero =>
   have t1 : decide (L < (l.length : Int)) = false := decide_eq_false (by have := HA.out; omega)
   have E := zaa.mk (show idxF l 0 = -1 by
    have := HA.out
    rw [this.2.2, List.drop_eq_nil_of_le (by omega)]; rfl)
   go_wp2
   go_ret
   exact ⟨by rw [E.out]; rfl, B1.out⟩
  | succ q =>
   have t1 : decide (L < (l.length : Int)) = true := decide_eq_true (by have := HA.out; omega)
   have p1 : (0 ≤ L) = True := eq_true (by have := HA.out; omega)
   have q1 : (L < (l.length : Int)) = True := eq_true (by have := HA.out; omega)
   obtain ⟨ad, e_, hc⟩ := Kd.at_int HR.out L (by have := HA.out; omega) (by have := HA.out; omega)
   subst e_
   have hc1 := (B1.out.cell (World.block_lt_of_cell? w _ hc)).trans hc
   clear hc
   have hm : m < l.length := by have := HA.out; omega
   have hd : l.drop m = rd l L :: l.drop (m + 1) := by
    have e : rd l L = l[m] := by rw [HA.out.1]; exact rd_some (List.getElem?_eq_getElem hm)
    rw [List.drop_eq_getElem_cons hm, e]
   obtain ⟨x, hx⟩ : ∃ x, rd l L = x := ⟨_, rfl⟩
   rw [hx] at hc1 hd
   have BF := zaa.mk (bad_f x)
   cases hb : badP x with
   | true =>
    rw [hb] at BF
    have E := zaa.mk (show idxF l 0 = L by
     rw [HA.out.2.2, hd, idxF, if_pos hb, HA.out.1])
    clear hd hx hb hm
    go_wp2_with (first
     | (go_at_call 52; (with_reducible refine (zcm.calls x _ _ BF.out).mono ?_); rintro e w1 ⟨rfl, n1, rfl⟩))
    go_ret
    exact ⟨by rw [E.out]; rfl, zab B1.out _⟩
   | false =>
    rw [hb] at BF
    have E := zaa.mk (show idxF l 0 = idxF (l.drop (m + 1)) (m + 1) by
     rw [HA.out.2.2, hd, idxF, hb, if_neg (by decide)])
    clear hd hx hb hm
    go_wp2_with (first
     | (go_at_call 52; (with_reducible refine (zcm.calls x _ _ BF.out).mono ?_); rintro e w1 ⟨rfl, n1, rfl⟩))
    go_roundg q
    case measure => omega
    case rel =>
     refine ⟨wrap64 (L + 1), m + 1, rfl, ⟨?_, by have := HA.out; omega, E.out⟩, ⟨zab B1.out _⟩⟩
     have := HA.out; have := HLL.out; rw [w64 (by omega) (by omega)]; omega
set_option maxHeartbeats 4000000 in
set_option maxRecDepth 100000 in
theorem contains_calls (A0 : Option Addr) (c0 : Nat) (l : List Int) (w : World) (hr : Kd.C (Kd.int .i64) w A0 l.length l) (hl : l.length ≤ 1099511627776) :
  Calls Tryd.prog 51 #[.slice A0 l.length c0, .func (.func 52) #[] #[]] w fun e w' => e = .returned (.bool (l.any badP)) ∧ Below w.heap.size w w' := by
 have HR := zaa.mk hr
 have HLL := zaa.mk hl
 have E := zaa.mk (idxF_any l 0)
 clear hr hl
 go_enter Tryd.func51, Tryd.ntmps51
 go_wp2_with (first
  | (go_at_call 72; (with_reducible refine (index_calls _ _ l _ HR.out HLL.out).mono ?_); rintro e w1 ⟨rfl, hB⟩; have B1 := zaa.mk hB; clear hB))
 go_ret
 refine ⟨?_, B1.out⟩
 rw [← E.out]
 rfl
end Go.Proofs.YtdifgiceallpiaaDoor.Hd
/- ranger.encode's last bytes (the deferred closure), walked by hand. -/
namespace Go.Proofs.YtdifgiceallpiaaDoor.Hd
open Go.RowKit YtdifgiceallpiaaDoorW.PrintWords YtdifgiceallpiaaDoorW.PrintLast YtdifgiceallpiaaDoorW.PrintMore YtdifgiceallpiaaDoor.Hw YtdifgiceallpiaaDoor.Com YtdifgiceallpiaaDoor.Rn YtdifgiceallpiaaDoor.P
attribute [local go_sem] za9 za8 zbi zbj za0 za1 zba zbb
def Ov (W : World) (g : Nat) (v : Value) : Prop := W.heap[g]? = some (.cells #[v] 48 (0, 0))
theorem info5r : (Tryd.prog.info? 5).map (fun i => (i.zero, i.size, i.bytes)) = some (some (.int .u8 0), 1, 1) := by kernel_rfl
theorem below_row {B : Nat} {w0 w w1 : World} {row : Option Nat} (h : Below B w0 w) (hg : w.grownBy w1 row) (hr : ∀ k, row = some k → B ≤ k) (hBs : B ≤ w.heap.size) : Below B w0 w1 :=
 ⟨hg.os.trans h.os, hg.tape.trans h.tape, hg.output.trans h.output, Nat.le_trans h.size hg.size, fun i hi => (hg.block i (by omega) (fun e => by have := hr i e.symm; omega)).trans (h.block i hi)⟩
def lastB (a m : Nat) : List Int := (List.range m).map (fun i => ((a / 2 ^ (24 - 8 * i) % 256 : Nat) : Int))
theorem lastB_step (a m : Nat) : lastB a m ++ [((a / 2 ^ (24 - 8 * m) % 256 : Nat) : Int)] = lastB a (m + 1) := by simp [lastB, List.range_succ]
set_option maxHeartbeats 4000000 in
set_option maxRecDepth 100000 in
theorem last_calls (g4 g5 : Nat) (v : Value) (xs : List Int) (a : Nat) (b : Int) (base : Nat) (w : World) (u : FrameMode) (hX : Ov w g4 v) (hR : Kd.R (Kd.int .u8) 5 w base (fun _ => True) v xs) (hW : Sp w g5 127 [] a b) (hb4 : base ≤ g4) (ha : a < 4294967296) (hxs : xs.length ≤ 1099511627776) :
  CallsD Tryd.prog 74 #[.pointer (some ⟨g4, 0, none⟩), .pointer (some ⟨g5, 0, none⟩)] u w fun e u' w' => u' = u ∧ (e = .returned (.tuple #[]) ∧ ∃ v' : Value, Ov w' g4 v' ∧ Kd.R (Kd.int .u8) 5 w' base (fun _ => True) v' (xs ++ lastB a 4) ∧ Below base w w') := by
 have HX0 := zaa.mk hX
 have HR0 := zaa.mk hR
 have HW0 := zaa.mk hW
 have HB := zaa.mk hb4
 have HA := zaa.mk ha
 have HLX := zaa.mk hxs
 clear hX hR hW hb4 ha hxs
 go_enter_d Tryd.func74, Tryd.ntmps74
 go_wp2
 go_loopg [3] 4 (fun q v3 w' => ∃ (L : Int) (m : Nat) (v' : Value), v3 = .int .i64 L ∧ zaa (L = (m : Int) ∧ m + q = 4) ∧ zaa (Ov w' g4 v') ∧ zaa (Kd.R (Kd.int .u8) 5 w' base (fun _ => True) v' (xs ++ lastB a m)) ∧ zaa (Sp w' g5 127 [] a b) ∧ zaa (Below base w w'))
 case atStart => exact ⟨0, 0, v, rfl, ⟨rfl, rfl⟩, HX0, ⟨(List.append_nil xs).symm ▸ HR0.out⟩, HW0, ⟨Below.refl _ _⟩⟩
 case round =>
  clear HX0 HR0 HW0
  obtain ⟨L, m, v', rfl, HM, X, R, W, B⟩ := hrel
  cases gk with
  | zero =>
   have t1 : decide (L < 4) = false := decide_eq_false (by have := HM.out; omega)
   have em : m = 4 := by have := HM.out; omega
   subst em
   go_wp2
   first | go_end0 | ((try simp only [Exit.inBlock, Exit.then]); refine bodyPost_ret (results_none rfl _ _ _) rfl ?_)
   exact ⟨rfl, v', X.out, R.out, B.out⟩
  | succ q =>
   have t1 : decide (L < 4) = true := decide_eq_true (by have := HM.out; omega)
   obtain ⟨D, hD⟩ : ∃ D : Int, (a : Int) = D := ⟨_, rfl⟩
   rw [hD] at W
   have HD := zaa.mk hD
   obtain ⟨lx, hlx⟩ : ∃ l, xs ++ lastB a m = l := ⟨_, rfl⟩
   rw [hlx] at R
   have hlen : lx.length ≤ 1099511627776 + 4 := by
    rw [← hlx]; have := HLX.out; have := HM.out; simp [lastB]; omega
   have HLY := zaa.mk hlx
   have HLX := zaa.mk hlen
   have e24 : wrap64 (24 - wrap64 (8 * L)) = 24 - 8 * L := by rw [w64 (x := 8 * L) (by have := HM.out; omega) (by have := HM.out; omega), w64 (by have := HM.out; omega) (by have := HM.out; omega)]
   obtain ⟨DD, hDD⟩ : ∃ DD : Int, D / 2 ^ (wrap64 (24 - wrap64 (8 * L))).toNat = DD := ⟨_, rfl⟩
   have hsh : Op.shift BinOp.shr IntKind.u64 D IntKind.i64 (wrap64 (24 - wrap64 (8 * L))) = pure (.int .u64 DD) := by
    rw [← hDD]
    exact shift_shr .u64 .i64 D _ (by have := HM.out; omega) (by rw [e24]; have := HM.out; simp [IntKind.bits]; omega)
   have NE := zaa.mk (And.intro (Kd.R_ne R.out X.out (by decide)) (And.intro (Kd.R_ne R.out W.out (by decide)) (zb9 X.out W.out (by decide))))
   have HBZ := zaa.mk (Nat.le_trans HB.out (Nat.le_of_lt (zb0 X.out)))
   have EV := zaa.mk (show IntKind.u8.wrap DD = ((a / 2 ^ (24 - 8 * m) % 256 : Nat) : Int) by
    have e1 : (24 - 8 * L).toNat = 24 - 8 * m := by have := HM.out; omega
    rw [← hDD, e24, e1, ← HD.out, IntKind.wrap_u8]
    simp)
   have hc4 := (zah X.out 0).trans (rfl : _ = some v')
   have hc5 := W.out.cell0
   clear hlx hlen hD e24 hDD
   go_wp2
   refine zcr (n := 11) (S := fun w' => w'.cell? ⟨g4, 0, none⟩ = some v' ∧ w'.cell? ⟨g5, 0, none⟩ = some (.int .u64 D)) (ds := [10]) #[false, false, false, false, false, false, false, false, false, false, false] (by kernel_rfl) rfl rfl ⟨hc4, hc5⟩ (fun hHeld => ?_)
   refine pure_ (i := 1) (N := some 7) (v := ?_) (a' := ?_) #[false, true, false, false, false, false, false, false, false, false, false] rfl rfl (by kernel_rfl) (fun _ _ _ h => h) (Or.inl ⟨by rfl, ?_⟩) ?_ ?_
   rotate_left
   ·intro w'
    go_simp
    with_reducible rfl
   rotate_left
   ·simp only [Act.put, sAt, sZr, sSc, i64_w, i32_w]
    rfl
   refine pure_ (i := 3) (N := some 9) (v := ?_) (a' := ?_) #[false, true, false, true, false, false, false, false, false, false, false] rfl rfl (by kernel_rfl) (fun _ _ _ h => h) (Or.inl ⟨by rfl, ?_⟩) ?_ ?_
   rotate_left
   ·intro w'
    go_simp
    with_reducible rfl
   rotate_left
   ·simp only [Act.put, sAt, sZr, sSc, i64_w, i32_w]
    rfl
   refine pure_ (i := 4) (N := some 10) (v := ?_) (a' := ?_) #[false, true, false, true, true, false, false, false, false, false, false] rfl rfl (by kernel_rfl) (fun _ _ _ h => h) (Or.inl ⟨by rfl, ?_⟩) ?_ ?_
   rotate_left
   ·intro w'
    go_simp
    with_reducible rfl
   rotate_left
   ·simp only [Act.put, sAt, sZr, sSc, i64_w, i32_w]
    rfl
   refine pure_ (i := 5) (N := some 11) (v := ?_) (a' := ?_) #[false, true, false, true, true, true, false, false, false, false, false] rfl rfl (by kernel_rfl) (fun _ _ _ h => h) (Or.inl ⟨by rfl, ?_⟩) ?_ ?_
   rotate_left
   ·intro w'
    go_simp
    with_reducible rfl
   rotate_left
   ·simp only [Act.put, sAt, sZr, sSc, i64_w, i32_w]
    rfl
   refine take_ (i := 0) (N := some 6) (v := ?_) (a' := ?_) #[true, true, false, true, true, true, false, false, false, false, false] rfl rfl (by kernel_rfl) (fun _ _ _ h => h) (Or.inl ⟨by rfl, ?_⟩) hHeld ?_ ?_
   rotate_left
   ·rintro w' ⟨s0, s1⟩
    go_simp
    with_reducible rfl
   rotate_left
   ·simp only [Act.put, sAt, sZr, sSc, i64_w, i32_w]
    rfl
   refine take_ (i := 2) (N := some 8) (v := ?_) (a' := ?_) #[true, true, true, true, true, true, false, false, false, false, false] rfl rfl (by kernel_rfl) (fun _ _ _ h => h) (Or.inl ⟨by rfl, ?_⟩) hHeld ?_ ?_
   rotate_left
   ·rintro w' ⟨s0, s1⟩
    go_simp
    with_reducible rfl
   rotate_left
   ·simp only [Act.put, sAt, sZr, sSc, i64_w, i32_w]
    rfl
   refine pure_ (i := 6) (N := some 12) (v := ?_) (a' := ?_) #[true, true, true, true, true, true, true, false, false, false, false] rfl rfl (by kernel_rfl) (fun _ _ _ h => h) (Or.inl ⟨by rfl, ?_⟩) ?_ ?_
   rotate_left
   ·intro w'
    go_simp
    with_reducible rfl
   rotate_left
   ·simp only [Act.put, sAt, sZr, sSc, i64_w, i32_w]
    rfl
   refine pure_ (i := 7) (N := some 13) (v := ?_) (a' := ?_) #[true, true, true, true, true, true, true, true, false, false, false] rfl rfl (by kernel_rfl) (fun _ _ _ h => h) (Or.inl ⟨by rfl, ?_⟩) ?_ ?_
   rotate_left
   ·intro w'
    go_simp
    with_reducible rfl
   rotate_left
   ·simp only [Act.put, sAt, sZr, sSc, i64_w, i32_w]
    rfl
   refine one_ (i := 8) (N := some 14) #[true, true, true, true, true, true, true, true, true, false, false] rfl rfl (by kernel_rfl) (by decide) (fun K hK => ?_)
   refine value_ (w1 := ?_) (v := ?_) (by rfl) rfl ?_ ?_
   rotate_left 2
   ·go_simp
    constructor
    ·rfl
    ·rfl
   have X4 := zaa.mk (za7 X.out (.cells #[.int .u8 (IntKind.u8.wrap DD)] 5))
   have D4 := zaa.mk (Sp.below W.out (zac (Below.refl _ _) (.cells #[.int .u8 (IntKind.u8.wrap DD)] 5)))
   refine hK.out _ _ ⟨((zah X4.out 0).trans rfl), D4.out.cell0⟩ (fun hHeld => ?_)
   clear hK K
   refine norm_ (a' := ?_) ?_ ?_
   rotate_left
   ·show Act.put _ (some 14) _ = _
    simp only [Act.put, sAt, sZr, sSc, i64_w, i32_w]
    rfl
   refine one_ (i := 9) (N := some 15) #[true, true, true, true, true, true, true, true, true, true, false] rfl rfl (by kernel_rfl) (by decide) (fun K hK => ?_)
   refine Kd.R_append_step (Kd.int .u8) (w0 := wr.drew) (W := wr.drew) base (by rfl) (.tmp 6) (.tmp 14) 48 5 (.int .u8 0) 1 rfl Tryd.underlying48 info5r rfl (by decide) (by omega) v' lx (IntKind.u8.wrap DD) [.int .u8 (IntKind.u8.wrap DD)] (fun _ => True) (fun _ => False) rfl rfl rfl (fun _ hk => hk.elim) (fun _ _ => trivial) (Kd.R_drew R.out) (Below.refl _ _) HBZ.out (by have := HLX.out; omega) ?_
   intro v2 w5 ho5 hb5 hg5_ ha5
   obtain ⟨lv, hlv⟩ : ∃ l, lx ++ [(IntKind.u8.wrap DD)] = l := ⟨_, rfl⟩
   rw [hlv] at ho5
   have LV := zaa.mk hlv
   clear hlv
   obtain ⟨A2, c2, e2⟩ := Kd.R_slice ho5
   subst e2
   have hg5 : wr.grownBy w5 v'.ownBlock := ⟨hg5_.os, hg5_.tape, hg5_.output, hg5_.size, hg5_.block⟩
   have X5 := zaa.mk (zby X.out hg5 NE.out.1)
   have D5 := zaa.mk (W.out.grown hg5 NE.out.2.1)
   have O5 := zaa.mk ho5
   have K5 := zaa.mk (And.intro hg5 ha5)
   clear ho5 hb5 hg5 hg5_ ha5
   refine hK.out _ _ ⟨((zah X5.out 0).trans rfl), D5.out.cell0⟩ (fun hHeld => ?_)
   clear hK K
   refine norm_ (a' := ?_) ?_ ?_
   rotate_left
   ·show Act.put _ (some 15) _ = _
    simp only [Act.put, sAt, sZr, sSc, i64_w, i32_w]
    rfl
   refine last_ (i := 10) (N := none) #[true, true, true, true, true, true, true, true, true, true, true] rfl rfl (by kernel_rfl) (by decide) (fun K hK => ?_)
   have hfz := zao X5.out 0
   refine skip_ (w1 := ?_) (by rfl) rfl ?_ ?_
   rotate_left
   ·go_simp
    rfl
   refine hK.out _ _ ?_
   clear hK K
   refine done_ (by kernel_rfl) ?_
   clear hc4 hc5 hHeld hfz
   obtain ⟨sv, hsv⟩ : ∃ sv, Value.slice A2 lv.length c2 = sv := ⟨_, rfl⟩
   rw [hsv] at O5 K5
   rw [hsv]
   clear hsv
   have X6 := zaa.mk (show Ov (w5.setCell ⟨g4, 0, none⟩ sv) g4 sv from blk_set X5.out 0 sv)
   have R6 := zaa.mk (Kd.R_set O5.out X5.out (by decide) 0 sv)
   have W6 := zaa.mk (show Sp (w5.setCell ⟨g4, 0, none⟩ sv) g5 127 [] D b from zbo (p := ⟨g4, 0, none⟩) D5.out NE.out.2.2.symm sv)
   have B6 := zaa.mk (show Below base w (w5.setCell ⟨g4, 0, none⟩ sv) from (below_row B.out K5.out.1 (fun k hk => Kd.R_base R.out k hk) HBZ.out).setCell HB.out sv)
   obtain ⟨w6, hw6⟩ : ∃ w6, w5.setCell ⟨g4, 0, none⟩ sv = w6 := ⟨_, rfl⟩
   rw [hw6] at X6 R6 W6 B6
   rw [hw6]
   clear hw6 D5 X5 O5 K5
   go_wp2
   go_roundg q
   case measure => omega
   case rel =>
    refine ⟨wrap64 (L + 1), m + 1, sv, rfl, ⟨?_, by have := HM.out; omega⟩, X6, ⟨?_⟩, ⟨?_⟩, B6⟩
    ·have := HM.out; rw [w64 (by omega) (by omega)]; omega
    ·rw [← lastB_step, ← List.append_assoc, HLY.out, ← EV.out, LV.out]
     exact R6.out
    ·rw [HD.out]; exact W6.out
end Go.Proofs.YtdifgiceallpiaaDoor.Hd
/- ranger.encode, walked by hand. -/
namespace Go.Proofs.YtdifgiceallpiaaDoor.Hd
open Go.RowKit YtdifgiceallpiaaDoorW.PrintWords YtdifgiceallpiaaDoorW.PrintLast YtdifgiceallpiaaDoorW.PrintMore YtdifgiceallpiaaDoor.Hw YtdifgiceallpiaaDoor.Com YtdifgiceallpiaaDoor.Rn YtdifgiceallpiaaDoor.P
attribute [local go_sem] za9 za8 zbi zbj za0 za1 zba zbb
theorem store_one {P : Program} {ops : Array Oper} {rest : List Oper} {o : Oper} {a : Act} {w : World} {Q : Exit → Act → World → Prop} (hgd : o.guard = none) (ty : TypeId) (x y : Operand) (ho : o.op = .store ty x y)
  (g : Nat) (v : Value) (hx : a.eval x = .pointer (some ⟨g, 0, none⟩)) (hy : a.eval y = v) (h1 : v.oneCell' = true)
  (t : TypeId) (old : Value) (hg : w.heap[g]? = some (.cells #[old] t (0, 0))) (hi : (P.info? ty).map (·.size) = some 1)
  (h : ∀ w1, zaa (w1.heap[g]? = some (.cells #[v] t (0, 0))) → zaa (w.grownBy w1 (some g)) → wpList P ops Q rest (a.put o.dst undef) w1) : wpList P ops Q (o :: rest) a w :=
 wpList_store_one hgd ty x y ho g hx (by rw [hy]; exact h1) t old hg hi (by rw [hy]; exact h _ ⟨setRow_heap w g _ _ t _ hg⟩ ⟨grown_row w g _⟩)
theorem results_cell_slice {P : Program} {fn : Func} {p : Tmp} {ty e : TypeId} (h : fn.results = #[.cell p ty]) (tmps : Array Value) (w : World) (g : Nat) (v : Value)
  (hp : tmps.getD p undef = .pointer (some ⟨g, 0, none⟩)) (hc : w.cell? ⟨g, 0, none⟩ = some v) (hu : P.underlying ty = some (.slice e)) : (results fn tmps).run P w = .ok v w := by
 have hp' : tmps[p]?.getD undef = .pointer (some ⟨g, 0, none⟩) := by simpa using hp
 have hagg : (isAgg ty).run P w = .ok false w := by
  unfold isAgg
  rw [Sem.run_bind, run_underlying hu w]
  rfl
 have hl : (loadVar ty ⟨g, 0, none⟩).run P w = .ok v w := by
  simp [loadVar, Sem.run_bind, hagg, go_sem, hc]
 simp [results, h, hp', asAddr, hl]
theorem one52 : (Tryd.prog.info? 48).map (·.size) = some 1 := by kernel_rfl
def zi (l : List Nat) : List Int := l.map (fun n : Nat => (n : Int))
theorem zi_append (a b : List Nat) : zi (a ++ b) = zi a ++ zi b := by simp [zi]
def enc : List Bool → List Int → Nat → Nat → List Int
 | bit :: t, p :: ps, a, b => zi (norm 4 (tk a b p.toNat bit).1 (tk a b p.toNat bit).2).1 ++ enc t ps (norm 4 (tk a b p.toNat bit).1 (tk a b p.toNat bit).2).2.1 (norm 4 (tk a b p.toNat bit).1 (tk a b p.toNat bit).2).2.2
 | _, _, a, _ => lastB a 4
def Jn (q : Nat) (xs tot : List Int) (c : Nat) (ok : Bool) (a b : Nat) (t : List Bool) (ps : List Int) : Prop :=
 (ok = true ∧ ∃ f, q = f + 1 ∧ c < 256 ∧ Wd f a b ∧ xs ++ (c : Int) :: (zi (norm f a b).1 ++ enc t ps (norm f a b).2.1 (norm f a b).2.2) = tot) ∨
 (ok = false ∧ a < b ∧ b < 4294967296 ∧ xs ++ enc t ps a b = tot)
theorem Jn_shift {f : Nat} {xs tot : List Int} {a b : Nat} {t : List Bool} {ps : List Int} (h : Wd f a b) (e : xs ++ (zi (norm f a b).1 ++ enc t ps (norm f a b).2.1 (norm f a b).2.2) = tot) :
  Jn f xs tot (shr1 a b).1 (shr1 a b).2.1 (shr1 a b).2.2.1 (shr1 a b).2.2.2 t ps := by
 unfold shr1
 by_cases hs : a / 16777216 = b / 16777216
 ·rw [if_pos hs]
  cases f with
  | zero => exact absurd hs h.zero
  | succ f =>
   refine .inl ⟨rfl, f, rfl, ?_, h.step hs, ?_⟩
   ·have := h.1; have := h.2.1
    show a / 16777216 < 256
    omega
   ·rw [norm, if_pos hs] at e
    exact e
 ·rw [if_neg hs]
  have hn : norm f a b = ([], a, b) := by
   cases f with
   | zero => rfl
   | succ f => rw [norm, if_neg hs]
  rw [hn] at e
  exact .inr ⟨rfl, by have := h.1; show a < b; omega, h.2.1, e⟩
theorem norm_len (f a b : Nat) : (norm f a b).1.length ≤ f := by
 induction f generalizing a b with
 | zero => simp [norm]
 | succ f ih =>
  rw [norm]
  split
  ·have := ih (sa a) (sb b)
   simp; omega
  ·simp
theorem enc_len (l : List Bool) : ∀ (ps : List Int) (a b : Nat), (enc l ps a b).length ≤ 4 * l.length + 4 := by
 induction l with
 | nil => intro ps a b; simp [enc, lastB]
 | cons bit t ih =>
  intro ps a b
  cases ps with
  | nil => simp [enc, lastB]
  | cons p ps =>
   rw [enc]
   have h1 := norm_len 4 (tk a b p.toNat bit).1 (tk a b p.toNat bit).2
   have h2 := ih ps (norm 4 (tk a b p.toNat bit).1 (tk a b p.toNat bit).2).2.1 (norm 4 (tk a b p.toNat bit).1 (tk a b p.toNat bit).2).2.2
   rw [List.length_append, List.length_cons]
   simp [zi]
   omega
theorem R8_grown {w w1 : World} {base g t : Nat} {v : Value} {xs : List Int} {cells : Array Value} (h : Kd.R (Kd.int .u8) 5 w base (fun _ => True) v xs) (hb : w.heap[g]? = some (.cells cells t (0, 0))) (ht : 5 ≠ t) (hg : w.grownBy w1 (some g)) : Kd.R (Kd.int .u8) 5 w1 base (fun _ => True) v xs := by
 have hne := Kd.R_ne h hb ht
 have hlt : ∀ k, v.ownBlock = some k → k < w.heap.size := fun k hk => Kd.R_lt h k hk
 obtain ⟨h0, inner, ho, hr⟩ := h
 exact ⟨h0, inner, own_move ho (fun k hk => hg.block k (hlt k hk) (fun e => hne (by rw [hk, ← e]))), hr⟩
theorem enc_cons {bit : Bool} {t : List Bool} {p : Int} {ps : List Int} {a b : Nat} : enc (bit :: t) (p :: ps) a b = zi (norm 4 (tk a b p.toNat bit).1 (tk a b p.toNat bit).2).1 ++ enc t ps (norm 4 (tk a b p.toNat bit).1 (tk a b p.toNat bit).2).2.1 (norm 4 (tk a b p.toNat bit).1 (tk a b p.toNat bit).2).2.2 := rfl
set_option maxHeartbeats 8000000 in
set_option maxRecDepth 100000 in
theorem encode_calls (A0 : Option Addr) (c0 : Nat) (l0 : List Bool) (A1 : Option Addr) (c1 : Nat) (l1 : List Int) (w : World) (hr0 : Kd.C Kd.bool w A0 l0.length l0) (hr1 : Kd.C (Kd.int .i64) w A1 l1.length l1) (hl : l0.length = l1.length) (hn : l0.length ≤ 4294967296) (hp : ∀ x ∈ l1, 1 ≤ x ∧ x ≤ 2047) :
  Calls Tryd.prog 53 #[.slice A0 l0.length c0, .slice A1 l1.length c1] w fun e w' => ∃ v : Value, e = .returned v ∧ Kd.R (Kd.int .u8) 5 w' w.heap.size (fun _ => True) v (enc l0 l1 0 4294967295) ∧ Below w.heap.size w w' := by
 have HR0 := zaa.mk hr0
 have HR1 := zaa.mk hr1
 have HL := zaa.mk hl
 have HN := zaa.mk hn
 have HP := zaa.mk hp
 clear hr0 hr1 hl hn hp
 go_enter_defers Tryd.func53, Tryd.ntmps53
 go_wp2_with (first
  | (go_at_call 73; (with_reducible refine (ranger_fresh.calls _ _ _ rfl).mono ?_); rintro e w1 ⟨rfl, hB⟩; have B1 := zaa.mk hB; clear hB))
 have X1 := zaa.mk (show Ov (w1.alloc (.cells #[.int .u64 0, .int .u64 4294967295] 127)) w.heap.size (.slice none 0 0) from za7 (za6 (zck w _) B1.out) _)
 have S1 := zaa.mk (show Sp (w1.alloc (.cells #[.int .u64 0, .int .u64 4294967295] 127)) w1.heap.size 127 [] (0 : Nat) (4294967295 : Nat) from zck w1 _)
 have C1 := zaa.mk (zac (zaf (zac (Below.refl w.heap.size w) (.cells #[.slice none 0 0] 48)) B1.out) (.cells #[.int .u64 0, .int .u64 4294967295] 127))
 have G5 := zaa.mk (show w.heap.size ≤ w1.heap.size from (zaf (zac (Below.refl w.heap.size w) (.cells #[.slice none 0 0] 48)) B1.out).size)
 have TL := zaa.mk (enc_len l0 l1 0 4294967295)
 clear B1
 go_loopg [14] l0.length (fun q v14 w' => ∃ (L : Int) (m a b : Nat) (A : Option Addr) (xs : List Int) (cc : Nat), v14 = .int .i64 L ∧ zaa (L = (m : Int) ∧ m + q = l0.length ∧ a < b ∧ b < 4294967296 ∧ xs ++ enc (l0.drop m) (l1.drop m) a b = enc l0 l1 0 4294967295) ∧ zaa (Ov w' w.heap.size (.slice A xs.length cc)) ∧ zaa (Kd.R (Kd.int .u8) 5 w' w.heap.size (fun _ => True) (.slice A xs.length cc) xs) ∧ zaa (Sp w' w1.heap.size 127 [] a b) ∧ zaa (Below w.heap.size w w'))
 case atStart => exact ⟨0, 0, 0, 4294967295, none, [], 0, rfl, ⟨rfl, by omega, by omega, by omega, rfl⟩, X1, ⟨Kd.R_nil _ _ _ _ _⟩, S1, C1⟩
 case round =>
  clear X1 S1 C1
  obtain ⟨L, m, a, b, A, xs, cc, rfl, HA, X, R, W, B⟩ := hrel
  cases gk with
  | zero =>
   have t1 : decide (L < (l0.length : Int)) = false := decide_eq_false (by have := HA.out; omega)
   have E := zaa.mk (show xs ++ lastB a 4 = enc l0 l1 0 4294967295 by
    have := HA.out
    have e := this.2.2.2.2
    rw [List.drop_eq_nil_of_le (by omega)] at e
    exact e)
   have hx := (zah X.out 0).trans (rfl : _ = some (Value.slice A xs.length cc))
   have hf := zao X.out 0
   go_wp2
   refine leaves_cons (f := 74) (args := #[.pointer (some ⟨w.heap.size, 0, none⟩), .pointer (some ⟨w1.heap.size, 0, none⟩)]) (by simp) (by simp [go_sem]) ?_
   have X9 : Ov (wr.setCell ⟨w.heap.size, 0, none⟩ (.slice A xs.length cc)) w.heap.size (.slice A xs.length cc) := blk_set X.out 0 _
   have R9 := Kd.R_set R.out X.out (by decide) 0 (.slice A xs.length cc)
   have W9 : Sp (wr.setCell ⟨w.heap.size, 0, none⟩ (.slice A xs.length cc)) w1.heap.size 127 [] a b := zbo (p := ⟨w.heap.size, 0, none⟩) W.out (zb9 X.out W.out (by decide)).symm _
   have B9 := zat (j := 0) (v := .slice A xs.length cc) B.out (Nat.le_refl _)
   refine (last_calls w.heap.size w1.heap.size _ xs a b w.heap.size _ .returning X9 R9 W9 (Nat.le_refl _) (by have := HA.out; omega) ?_).mono ?_
   ·have h1 := TL.out
    have h2 := HN.out
    have h3 := congrArg List.length E.out
    rw [List.length_append] at h3
    omega
   rintro e u' w'' ⟨rfl, rfl, v', hX, hR, hB⟩
   have hc := (zah hX 0).trans (rfl : _ = some v')
   rw [E.out] at hR
   exact ⟨v', results_cell_slice rfl _ _ w.heap.size v' rfl hc Tryd.underlying48, v', rfl, hR, B9.trans hB⟩
  | succ q =>
   have t1 : decide (L < (l0.length : Int)) = true := decide_eq_true (by have := HA.out; omega)
   have p1 : (0 ≤ L) = True := eq_true (by have := HA.out; omega)
   have q1 : (L < (l0.length : Int)) = True := eq_true (by have := HA.out; omega)
   have q2 : (L < (l1.length : Int)) = True := eq_true (by have := HA.out; have := HL.out; omega)
   obtain ⟨ad0, e_, hc0⟩ := Kd.at_bool HR0.out L (by have := HA.out; omega) (by have := HA.out; omega)
   subst e_
   obtain ⟨ad1, e_, hc1⟩ := Kd.at_int HR1.out L (by have := HA.out; omega) (by have := HA.out; have := HL.out; omega)
   subst e_
   have hd0 := (B.out.cell (World.block_lt_of_cell? w _ hc0)).trans hc0
   have hd1 := (B.out.cell (World.block_lt_of_cell? w _ hc1)).trans hc1
   clear hc0 hc1
   have hm : m < l0.length := by have := HA.out; omega
   have hm1 : m < l1.length := by have := HL.out; omega
   have e0 : l0.drop m = rdOf false l0 L :: l0.drop (m + 1) := by
    rw [List.drop_eq_getElem_cons hm, HA.out.1, rdOf_some (List.getElem?_eq_getElem hm)]
   have e1 : l1.drop m = rd l1 L :: l1.drop (m + 1) := by
    rw [List.drop_eq_getElem_cons hm1, HA.out.1, rd_some (List.getElem?_eq_getElem hm1)]
   have hpr := HP.out (rd l1 L) (by rw [HA.out.1, rd_some (List.getElem?_eq_getElem hm1)]; exact List.getElem_mem hm1)
   obtain ⟨bit, hbit⟩ : ∃ x, rdOf false l0 L = x := ⟨_, rfl⟩
   obtain ⟨p, hp⟩ : ∃ p : Nat, rd l1 L = p := ⟨(rd l1 L).toNat, by omega⟩
   rw [hbit] at hd0 e0
   rw [hp] at hd1 e1 hpr
   have HE := HA.out.2.2.2.2
   rw [e0, e1, enc_cons, Int.toNat_natCast] at HE
   have HT := zaa.mk (tk_ok (p := p) (bit := bit) HA.out.2.2.1 (by omega))
   have HE := zaa.mk HE
   have PP := zaa.mk (show p ≤ 2048 by omega)
   have LT := zaa.mk (And.intro (Nat.le_of_lt HA.out.2.2.1) HA.out.2.2.2.1)
   clear hm hm1 e0 e1 hpr hbit hp
   obtain ⟨a1, ha1⟩ : ∃ x, (tk a b p bit).1 = x := ⟨_, rfl⟩
   obtain ⟨b1, hb1⟩ : ∃ x, (tk a b p bit).2 = x := ⟨_, rfl⟩
   rw [ha1, hb1] at HT HE
   have HTA := zaa.mk (And.intro ha1 hb1)
   clear ha1 hb1
   have WD := zaa.mk (Wd.start HT.out.2.1 (Nat.lt_of_le_of_lt HT.out.2.2 LT.out.2))
   have JN := zaa.mk (Jn_shift WD.out HE.out)
   have AB := zaa.mk (show a1 < 4294967296 ∧ b1 < 4294967296 by have := HT.out; have := LT.out; omega)
   go_wp2_with (first
    | (go_at_call 75; (with_reducible refine (take_calls w1.heap.size 127 [] a b p bit wr W.out LT.out.1 LT.out.2 PP.out).mono ?_); rintro e w3 ⟨rfl, hS, hG⟩; rw [HTA.out.1, HTA.out.2] at hS; have W3 := zaa.mk hS; have X3 := zaa.mk (zby X.out hG (by have := zb9 X.out W.out (by decide); simp; exact this)); have R3 := zaa.mk (R8_grown R.out W.out (by decide) hG); have B3 := zaa.mk (below_grown B.out hG G5.out B.out.size); clear hS hG)
    | (go_at_call 76; (with_reducible refine (shift_calls w1.heap.size 127 [] a1 b1 w3 W3.out AB.out.1 AB.out.2).mono ?_); rintro e w4 ⟨rfl, hS, hG⟩; have W4 := zaa.mk hS; have X4 := zaa.mk (zby X3.out hG (by have := zb9 X3.out W3.out (by decide); simp; exact this)); have R4 := zaa.mk (R8_grown R3.out W3.out (by decide) hG); have B4 := zaa.mk (below_grown B3.out hG G5.out B3.out.size); clear hS hG))
   obtain ⟨ci, hci⟩ : ∃ x, (shr1 a1 b1).1 = x := ⟨_, rfl⟩
   obtain ⟨oki, hoki⟩ : ∃ x, (shr1 a1 b1).2.1 = x := ⟨_, rfl⟩
   obtain ⟨ai, hai⟩ : ∃ x, (shr1 a1 b1).2.2.1 = x := ⟨_, rfl⟩
   obtain ⟨bi, hbi⟩ : ∃ x, (shr1 a1 b1).2.2.2 = x := ⟨_, rfl⟩
   rw [hci, hoki, hai, hbi] at JN
   rw [hai, hbi] at W4
   rw [hci, hoki]
   clear hci hoki hai hbi W X R B W3 X3 R3 B3 WD HT HE LT PP AB HTA hd0 hd1
   go_loopg [8, 9] 4 (fun q8 v8 v9 w' => ∃ (c : Nat) (ok : Bool) (a2 b2 : Nat) (A2 : Option Addr) (xs2 : List Int) (cc2 : Nat), v8 = .int .u8 c ∧ v9 = .bool ok ∧ zaa (Jn q8 xs2 (enc l0 l1 0 4294967295) c ok a2 b2 (l0.drop (m + 1)) (l1.drop (m + 1))) ∧ zaa (Ov w' w.heap.size (.slice A2 xs2.length cc2)) ∧ zaa (Kd.R (Kd.int .u8) 5 w' w.heap.size (fun _ => True) (.slice A2 xs2.length cc2) xs2) ∧ zaa (Sp w' w1.heap.size 127 [] a2 b2) ∧ zaa (Below w.heap.size w w'))
   case atStart => exact ⟨ci, oki, ai, bi, A, xs, cc, rfl, rfl, JN, X4, R4, W4, B4⟩
   case round =>
    clear JN X4 R4 W4 B4
    obtain ⟨c, ok, a2, b2, A2, xs2, cc2, rfl, rfl, JN, X, R, W, B⟩ := hrel
    rcases JN.out with ⟨hok, f, hq, hc, hw, he⟩ | ⟨hok, hab, hb, he⟩
    ·subst hok
     subst hq
     have HW := zaa.mk (show a2 < 4294967296 ∧ b2 < 4294967296 by have h1 := hw.1; have h2 := hw.2.1; omega)
     have HE := zaa.mk (Jn_shift (tot := enc l0 l1 0 4294967295) (xs := xs2 ++ [(c : Int)]) hw (by rw [List.append_assoc]; exact he))
     have HX := zaa.mk (show xs2.length ≤ 4 * 4294967296 + 4 by
      have h1 := TL.out
      have h2 := HN.out
      have h3 := congrArg List.length he
      rw [List.length_append] at h3
      omega)
     have hxc := (zah X.out 0).trans (rfl : _ = some (Value.slice A2 xs2.length cc2))
     clear hw hc he JN
     go_wp2_with (first
      | ((with_reducible refine zaw (b := .append) (xs := #[.tmp 34, .tmp 36]) rfl ?_); at_builtin; refine Kd.R_append (Kd.int .u8) (w0 := w) w.heap.size rfl (.tmp 34) (.tmp 36) 48 5 (.int .u8 0) 1 rfl Tryd.underlying48 info5r rfl (by decide) (by omega) (.slice A2 xs2.length cc2) xs2 (c : Int) [.int .u8 c] (fun _ => True) (fun _ => False) rfl (by first | (go_simp; done) | (go_simp; rfl)) ?aP (fun _ hk => hk.elim) ?aF ?aO ?aB ?aS ?aL ?_; (case aP => exact rfl); (case aF => exact (fun _ _ => trivial)); (case aO => exact R.out); (case aB => exact B.out); (case aS => exact B.out.size); (case aL => have := HX.out; omega); intro v1 w5 ho5 hb5 hg5 ha5; obtain ⟨A3, c3, e3⟩ := Kd.R_slice ho5; subst e3; have NE := zaa.mk (And.intro (Kd.R_ne R.out X.out (by decide)) (Kd.R_ne R.out W.out (by decide))); have X5 := zaa.mk (zby X.out hg5 NE.out.1); have W5 := zaa.mk (W.out.grown hg5 NE.out.2); have O5 := zaa.mk ho5; have B5 := zaa.mk hb5; clear ho5 hb5 hg5 ha5)
      | ((with_reducible refine zbx (t := 48) (p := 4) rfl ?_); refine store_one rfl 48 (.tmp 4) (.tmp 37) rfl w.heap.size _ rfl rfl rfl 48 _ X5.out one52 ?_; intro w6 X6 G6; have W6 := zaa.mk (W5.out.grown G6.out (by have := zb9 X5.out W5.out (by decide); simp; exact this.symm)); have R6 := zaa.mk (R8_grown O5.out X5.out (by decide) G6.out); have B6 := zaa.mk (below_grown B5.out G6.out (Nat.le_refl _) B5.out.size))
      | (go_at_call 76; (with_reducible refine (shift_calls w1.heap.size 127 [] a2 b2 w6 W6.out HW.out.1 HW.out.2).mono ?_); rintro e w7 ⟨rfl, hS, hG⟩; have W7 := zaa.mk hS; have X7 := zaa.mk (zby X6.out hG (by have := zb9 X6.out W6.out (by decide); simp; exact this)); have R7 := zaa.mk (R8_grown R6.out W6.out (by decide) hG); have B7 := zaa.mk (below_grown B6.out hG G5.out B6.out.size); clear hS hG))
     go_roundg f
     case measure => omega
     case rel => exact ⟨_, _, _, _, A3, xs2 ++ [(c : Int)], c3, rfl, rfl, HE, X7, R7, W7, B7⟩
    ·subst hok
     have HX := zaa.mk (And.intro hab (And.intro hb he))
     clear hab hb he JN
     go_wp2
     go_roundg q
     case measure => omega
     case rel =>
      refine ⟨wrap64 (L + 1), m + 1, a2, b2, A2, xs2, cc2, rfl, ⟨?_, by have := HA.out; omega, HX.out.1, HX.out.2.1, HX.out.2.2⟩, X, R, W, B⟩
      have := HA.out; have := HN.out; rw [w64 (by omega) (by omega)]; omega
end Go.Proofs.YtdifgiceallpiaaDoor.Hd
/- ranger.Encode, walked by hand. -/
namespace Go.Proofs.YtdifgiceallpiaaDoor.Hd
open Go.RowKit YtdifgiceallpiaaDoorW.PrintWords YtdifgiceallpiaaDoorW.PrintLast YtdifgiceallpiaaDoorW.PrintMore YtdifgiceallpiaaDoor.Hw YtdifgiceallpiaaDoor.Com YtdifgiceallpiaaDoor.Rn YtdifgiceallpiaaDoor.P
attribute [local go_sem] za9 za8 zbi zbj za0 za1 zba zbb
theorem conv_run {P : Program} {o : Oper} {a : Act} {W : World} {src dst : TypeId} {x : Operand} {v s : Value} (ho : o.op = .convert src dst x) (hx : a.eval x = v) (h : (convert src dst v).run P W = .ok s W) : (execOp a.eval o).run P W = .ok (.value s) W := by simp [execOp, ho, hx, h]
def encP (l0 : List Bool) (l1 : List Int) : ByteArray × Int :=
 if l0.length ≠ l1.length then (⟨#[]⟩, 1) else if l1.any badP = true then (⟨#[]⟩, 2) else if l0.length = 0 then (⟨#[]⟩, 0) else (strOfNums (enc l0 l1 0 4294967295), 0)
def zcj.f (l0 : List Bool) (l1 : List Int) : Option (ByteArray × Int) := if l0.length ≤ 4294967296 ∧ l1.length ≤ 4294967296 then some (encP l0 l1) else none
theorem not_bad {l : List Int} (h : l.any badP = false) : ∀ x ∈ l, 1 ≤ x ∧ x ≤ 2047 := by
 intro x hx
 have := List.any_eq_false.1 h x hx
 unfold badP at this
 rw [decide_eq_true_eq] at this
 omega
set_option maxHeartbeats 4000000 in
set_option maxRecDepth 100000 in
theorem zcj.calls (A0 : Option Addr) (c0 : Nat) (l0 : List Bool) (A1 : Option Addr) (c1 : Nat) (l1 : List Int) (r1 : ByteArray) (r2 : Int) (w : World) (hr0 : Kd.C Kd.bool w A0 l0.length l0) (hc0 : l0.length ≤ c0) (hr1 : Kd.C (Kd.int .i64) w A1 l1.length l1) (hc1 : l1.length ≤ c1) (h : zcj.f l0 l1 = some (r1, r2)) :
  Calls Tryd.prog 29 #[.slice A0 l0.length c0, .slice A1 l1.length c1] w fun e w' => e = .returned (.tuple #[.string r1, .int .i64 r2]) ∧ Below w.heap.size w w' := by
 unfold zcj.f at h
 by_cases hn : l0.length ≤ 4294967296 ∧ l1.length ≤ 4294967296
 ·rw [if_pos hn] at h
  replace h := Option.some.inj h
  unfold encP at h
  have HR0 := zaa.mk hr0
  have HR1 := zaa.mk hr1
  have HN := zaa.mk hn
  by_cases h1 : l0.length = l1.length
  ·rw [if_neg (fun e => e h1)] at h
   have t1 : ((l0.length : Int) != (l1.length : Int)) = false := by rw [bne_eq_false_iff_eq]; omega
   cases h2 : l1.any badP with
   | true =>
    rw [h2, if_pos rfl] at h
    obtain ⟨rfl, rfl⟩ := Prod.mk.inj h
    clear h hr0 hc0 hr1 hc1 hn
    go_enter Tryd.func29, Tryd.ntmps29
    go_wp2_with (first
     | (go_at_call 51; (with_reducible refine (contains_calls _ _ l1 _ HR1.out (Nat.le_trans HN.out.2 (by decide))).mono ?_); rintro e w1 ⟨rfl, hB⟩; rw [h2]; have B1 := zaa.mk hB; clear hB))
    go_ret2
    exact ⟨rfl, B1.out⟩
   | false =>
    rw [h2, if_neg (by decide)] at h
    have HP := zaa.mk (not_bad h2)
    by_cases h3 : l0.length = 0
    ·rw [if_pos h3] at h
     obtain ⟨rfl, rfl⟩ := Prod.mk.inj h
     have t3 : ((l0.length : Int) == 0) = true := by rw [beq_iff_eq]; omega
     clear h hr0 hc0 hr1 hc1 hn
     go_enter Tryd.func29, Tryd.ntmps29
     go_wp2_with (first
      | (go_at_call 51; (with_reducible refine (contains_calls _ _ l1 _ HR1.out (Nat.le_trans HN.out.2 (by decide))).mono ?_); rintro e w1 ⟨rfl, hB⟩; rw [h2]; have B1 := zaa.mk hB; clear hB))
     go_ret2
     exact ⟨rfl, B1.out⟩
    ·rw [if_neg h3] at h
     obtain ⟨rfl, rfl⟩ := Prod.mk.inj h
     have t3 : ((l0.length : Int) == 0) = false := by rw [beq_eq_false_iff_ne]; omega
     have H1 := zaa.mk h1
     clear h hr0 hc0 hr1 hc1 hn h1 h3
     go_enter Tryd.func29, Tryd.ntmps29
     go_wp2_with (first
      | (go_at_call 51; (with_reducible refine (contains_calls _ _ l1 _ HR1.out (Nat.le_trans HN.out.2 (by decide))).mono ?_); rintro e w1 ⟨rfl, hB⟩; rw [h2]; have B1 := zaa.mk hB; clear hB)
      | (go_at_call 53; (with_reducible refine (encode_calls _ _ l0 _ _ l1 _ (Kd.C_below HR0.out B1.out) (Kd.C_below HR1.out B1.out) H1.out HN.out.1 HP.out).mono ?_); rintro e w2 ⟨v, rfl, hR, hB⟩; have B2 := zaa.mk (zaf B1.out hB); obtain ⟨A, c, rfl, hlc, hC⟩ := Kd.R_reads hR; have HC := zaa.mk hC; clear hR hB hlc hC)
      | ((with_reducible refine zay (N := 22) rfl ?_); refine val_event rfl (conv_run rfl rfl (Kd.C_string (P := Tryd.prog) (c := c) Tryd.underlying48 Tryd.underlying5 Tryd.underlying9 HC.out)) ?_))
     go_ret2
     exact ⟨rfl, B2.out⟩
  ·rw [if_pos h1] at h
   obtain ⟨rfl, rfl⟩ := Prod.mk.inj h
   have t1 : ((l0.length : Int) != (l1.length : Int)) = true := by rw [bne_iff_ne]; omega
   clear h hr0 hc0 hr1 hc1 hn h1
   go_enter Tryd.func29, Tryd.ntmps29
   go_wp2
   go_ret2
   exact ⟨rfl, by repeat (first | (with_reducible first | apply zac | apply zab | apply zad) | exact Below.refl _ _)⟩
 ·rw [if_neg hn] at h
  cases h
end Go.Proofs.YtdifgiceallpiaaDoor.Hd
/- ranger's Decoder, walked by hand: next and New. -/
namespace Go.Proofs.YtdifgiceallpiaaDoor.Hd
open Go.RowKit YtdifgiceallpiaaDoorW.PrintWords YtdifgiceallpiaaDoorW.PrintLast YtdifgiceallpiaaDoorW.PrintMore YtdifgiceallpiaaDoor.Hw YtdifgiceallpiaaDoor.Com YtdifgiceallpiaaDoor.Rn YtdifgiceallpiaaDoor.P
attribute [local go_sem] za9 za8 zbi zbj za0 za1 zba zbb
def nxX (x : Nat) (s : ByteArray) : Nat := x % 16777216 * 256 + (if s.size = 0 then 0 else (bt s 0).toNat)
def nxS (s : ByteArray) : ByteArray := if s.size = 0 then s else s.extract 1 s.size
theorem bt0_lt (s : ByteArray) : 0 ≤ bt s 0 ∧ bt s 0 < 256 := by
 have := bt_range s 0
 omega
theorem bt0_at (s : ByteArray) (h : 0 < s.size) : ((s[0]'h).toNat : Int) = bt s 0 := by
 unfold bt
 rw [dif_pos (by exact h)]
 rfl
theorem nxX_lt (x : Nat) (s : ByteArray) : nxX x s < 4294967296 := by
 have := bt0_lt s
 unfold nxX
 split <;> omega
def DecS (W : World) (g : Nat) (a b x : Int) (s : ByteArray) : Prop := Sp W g 133 [.int .u64 x, .string s] a b
section
variable {W : World} {g : Nat} {a b x : Int} {s : ByteArray}
theorem DecS.cell2 (h : DecS W g a b x s) : W.cell? ⟨g, 2, none⟩ = some (.int .u64 x) := (zah h 2).trans rfl
theorem DecS.cell3 (h : DecS W g a b x s) : W.cell? ⟨g, 3, none⟩ = some (.string s) := (zah h 3).trans rfl
theorem DecS.set2 (h : DecS W g a b x s) (y : Int) : DecS (W.setCell ⟨g, 2, none⟩ (.int .u64 y)) g a b y s := zb2 h 2 _ (by simp)
theorem DecS.set3 (h : DecS W g a b x s) (y : ByteArray) : DecS (W.setCell ⟨g, 3, none⟩ (.string y)) g a b x y := zb2 h 3 _ (by simp)
end
theorem empty_of {s : ByteArray} (h : s.size = 0) : s = ⟨#[]⟩ := by
 cases s with
 | mk d =>
  have : d.size = 0 := h
  rw [Array.size_eq_zero_iff.1 this]
theorem TL1 {s : ByteArray} (h : ¬ s.size = 0) : s.toList.isEmpty = false := by
 rw [ByteArray.toList_eq]
 cases hl : s.data.toList with
 | nil =>
  have : s.data.size = 0 := by rw [← Array.length_toList, hl]; rfl
  exact absurd this h
 | cons _ _ => rfl
theorem or_byte (x c : Nat) (hx : x < 4294967296) (hc : c < 256) : Go.bits .or .u64 ((x % 16777216 * 256 : Nat) : Int) (c : Int) = ((x % 16777216 * 256 + c : Nat) : Int) := by
 rw [(bits_u64 (x % 16777216 * 256) c (by omega) (by omega)).2, or_join _ c 8 (by omega) (by omega)]
set_option maxHeartbeats 4000000 in
set_option maxRecDepth 100000 in
theorem next_calls (g a b x : Nat) (s : ByteArray) (w : World) (hS : DecS w g a b x s) (hx : x < 4294967296) :
  Calls Tryd.prog 77 #[.pointer (some ⟨g, 0, none⟩)] w fun e w' => e = .returned (.tuple #[]) ∧ DecS w' g a b (nxX x s) (nxS s) ∧ w.grownBy w' (some g) := by
 have S0 := zaa.mk hS
 have hc2 := hS.cell2
 have hc3 := hS.cell3
 have hf2 := Sp.free hS 2
 have hf3 := Sp.free hS 3
 have EA := zaa.mk (show IntKind.u64.wrap (Go.bits .and .u64 (x : Int) 16777215 * 256) = ((x % 16777216 * 256 : Nat) : Int) by
  rw [low24 x hx, wu64 (by omega) (by omega)]; omega)
 have HX := zaa.mk hx
 by_cases h0 : s.size = 0
 ·obtain rfl := empty_of h0
  have e1 : nxX x ⟨#[]⟩ = x % 16777216 * 256 := by unfold nxX; rw [if_pos h0]; rfl
  have e2 : nxS ⟨#[]⟩ = ⟨#[]⟩ := if_pos h0
  rw [e1, e2]
  clear hS hx e1 e2 h0
  go_enter Tryd.func77, Tryd.ntmps77
  go_wp2
  first | go_end0 | ((try simp only [Exit.inBlock, Exit.then]); refine bodyPost_ret (results_none rfl _ _ _) rfl ?_)
  rw [EA.out]
  exact ⟨rfl, S0.out.set2 _, zcn (grown_refl _ _) _ _⟩
 ·have e1 : nxX x s = x % 16777216 * 256 + (bt s 0).toNat := by unfold nxX; rw [if_neg h0]
  have e2 : nxS s = s.extract 1 s.size := if_neg h0
  rw [e1, e2]
  have hb := bt0_lt s
  have t1 : s.toList.isEmpty = false := TL1 h0
  have p1 : (0 < (s.size : Int)) = True := eq_true (by omega)
  have p2 : (1 ≤ (s.size : Int)) = True := eq_true (by omega)
  have p3 : (0 < s.size) = True := eq_true (by omega)
  have p4 : (1 ≤ s.size) = True := eq_true (by omega)
  obtain ⟨c, hc⟩ : ∃ c : Nat, bt s 0 = c := ⟨(bt s 0).toNat, by omega⟩
  have EB := zaa.mk (show Go.bits .or .u64 (IntKind.u64.wrap (Go.bits .and .u64 (x : Int) 16777215 * 256)) (IntKind.u64.wrap (bt s 0)) = ((x % 16777216 * 256 + (bt s 0).toNat : Nat) : Int) by
   rw [EA.out, hc, wu64 (by omega) (by omega), or_byte x c hx (by omega), Int.toNat_natCast])
  have EB2 := zaa.mk (show Go.bits .or .u64 (IntKind.u64.wrap (Go.bits .and .u64 (x : Int) 16777215 * 256)) (bt s 0) = ((x % 16777216 * 256 + (bt s 0).toNat : Nat) : Int) by
   rw [EA.out, hc, or_byte x c hx (by omega), Int.toNat_natCast])
  have HZ := zaa.mk (show 0 < s.size by omega)
  obtain ⟨V, hV⟩ : ∃ V : Int, ((x % 16777216 * 256 + (bt s 0).toNat : Nat) : Int) = V := ⟨_, rfl⟩
  have HV := zaa.mk hV
  clear hV
  clear hS hx e1 e2 h0 hb hc
  go_enter Tryd.func77, Tryd.ntmps77
  go_wp2
  have D2 := zaa.mk (S0.out.set2 (IntKind.u64.wrap (Go.bits .and .u64 (x : Int) 16777215 * 256)))
  obtain ⟨XA, hXA⟩ : ∃ z, IntKind.u64.wrap (Go.bits .and .u64 (x : Int) 16777215 * 256) = z := ⟨_, rfl⟩
  have G2 := zaa.mk (zcn (grown_refl w (some g)) 2 (.int .u64 XA))
  rw [hXA] at D2 EB EB2
  rw [hXA]
  obtain ⟨w2, hw2⟩ : ∃ w2, w.setCell ⟨g, 2, none⟩ (.int .u64 XA) = w2 := ⟨_, rfl⟩
  rw [hw2] at D2 G2
  rw [hw2]
  clear hw2 hc2 hc3 hf2 hf3 hXA EA
  have hc2 := D2.out.cell2
  have hc3 := D2.out.cell3
  have hf2 := Sp.free D2.out 2
  have hf3 := Sp.free D2.out 3
  go_still_tail 13, (by kernel_rfl)
  change wpList _ _ _ _ _ w2.drew
  rw [bt0_at s HZ.out, EB.out, HV.out]
  go_wp2
  first | go_end0 | ((try simp only [Exit.inBlock, Exit.then]); refine bodyPost_ret (results_none rfl _ _ _) rfl ?_)
  rw [HV.out]
  exact ⟨rfl, (D2.out.set2 V).set3 (s.extract 1 s.size), grown_step (zcn (zcn G2.out 2 _) 3 _) (zcf (zbl (Below.refl _ _)) _)⟩
end Go.Proofs.YtdifgiceallpiaaDoor.Hd
/- ranger.New and Bit, walked by hand. -/
namespace Go.Proofs.YtdifgiceallpiaaDoor.Hd
open Go.RowKit YtdifgiceallpiaaDoorW.PrintWords YtdifgiceallpiaaDoorW.PrintLast YtdifgiceallpiaaDoorW.PrintMore YtdifgiceallpiaaDoor.Hw YtdifgiceallpiaaDoor.Com YtdifgiceallpiaaDoor.Rn YtdifgiceallpiaaDoor.P
attribute [local go_sem] za9 za8 zbi zbj za0 za1 zba zbb
def nit : Nat → Nat → ByteArray → Nat × ByteArray
 | 0, x, s => (x, s)
 | k + 1, x, s => nit k (nxX x s) (nxS s)
theorem nit_lt (k : Nat) : ∀ x s, x < 4294967296 → (nit k x s).1 < 4294967296 := by
 induction k with
 | zero => intro x s h; exact h
 | succ k ih => intro x s h; exact ih _ _ (nxX_lt x s)
set_option maxHeartbeats 4000000 in
set_option maxRecDepth 100000 in
theorem New_calls (s : ByteArray) (w : World) :
  Calls Tryd.prog 58 #[.string s] w fun e w' => ∃ g : Nat, e = .returned (.pointer (some ⟨g, 0, none⟩)) ∧ w.heap.size ≤ g ∧ DecS w' g (0 : Nat) (4294967295 : Nat) ((nit 4 0 s).1 : Nat) (nit 4 0 s).2 ∧ Below w.heap.size w w' := by
 go_enter Tryd.func58, Tryd.ntmps58
 go_wp2_with (first
  | (go_at_call 73; (with_reducible refine (ranger_fresh.calls _ _ _ rfl).mono ?_); rintro e w1 ⟨rfl, hB⟩; have B1 := zaa.mk hB; clear hB)
  | ((with_reducible refine zay (N := 7) rfl ?_); refine zcq ?hg (N := 7) ?hd (cs := #[.int .u64 0, .int .u64 4294967295, .int .u64 0, .string s]) (t := 133) ?hr ?_; (case hd => rfl); (case hg => rfl); (case hr => first | (go_simp; done) | (go_simp; rfl)); intro g hg w2 hx2 hB2; have B2 := zaa.mk (zaf B1.out hB2); have S2 := zaa.mk (show DecS w2 g (0 : Nat) (4294967295 : Nat) (0 : Nat) s from hx2); have G2 := zaa.mk (show w.heap.size ≤ g by rw [hg]; exact B1.out.size); clear hg hx2 hB2))
 go_loopg [8] 4 (fun q v8 w' => ∃ (L : Int) (m x : Nat) (s' : ByteArray), v8 = .int .i64 L ∧ zaa (L = (m : Int) ∧ m + q = 4 ∧ x < 4294967296 ∧ nit q x s' = nit 4 0 s) ∧ zaa (DecS w' g (0 : Nat) (4294967295 : Nat) x s') ∧ zaa (Below w.heap.size w w'))
 case atStart => exact ⟨0, 0, 0, s, rfl, ⟨rfl, rfl, by decide, rfl⟩, S2, B2⟩
 case round =>
  clear S2 B2 B1
  obtain ⟨L, m, x, s', rfl, HA, S2, B2⟩ := hrel
  cases gk with
  | zero =>
   have t1 : decide (L < 4) = false := decide_eq_false (by have := HA.out; omega)
   have E := zaa.mk HA.out.2.2.2
   go_wp2
   go_ret
   refine ⟨g, rfl, G2.out, ?_, B2.out⟩
   rw [← E.out]
   exact S2.out
  | succ q =>
   have t1 : decide (L < 4) = true := decide_eq_true (by have := HA.out; omega)
   go_wp2_with (first
    | (go_at_call 77; (with_reducible refine (next_calls g 0 4294967295 x s' _ S2.out HA.out.2.2.1).mono ?_); rintro e w3 ⟨rfl, hS, hG⟩; have S3 := zaa.mk hS; have B3 := zaa.mk (below_grown B2.out hG G2.out B2.out.size); clear hS hG))
   go_roundg q
   case measure => omega
   case rel =>
    refine ⟨wrap64 (L + 1), m + 1, nxX x s', nxS s', rfl, ⟨?_, by have := HA.out; omega, nxX_lt x s', HA.out.2.2.2⟩, S3, B3⟩
    have := HA.out; rw [w64 (by omega) (by omega)]; omega
def nrm : Nat → Nat → Nat → Nat → ByteArray → Nat × Nat × Nat × ByteArray
 | 0, a, b, x, s => (a, b, x, s)
 | f + 1, a, b, x, s => if a / 16777216 = b / 16777216 then nrm f (sa a) (sb b) (nxX x s) (nxS s) else (a, b, x, s)
def Jb (q : Nat) (ok : Bool) (a b x : Nat) (s : ByteArray) (tot : Nat × Nat × Nat × ByteArray) : Prop :=
 (ok = true ∧ ∃ f, q = f + 1 ∧ Wd f a b ∧ nrm f a b (nxX x s) (nxS s) = tot) ∨ (ok = false ∧ (a, b, x, s) = tot)
theorem Jb_shift {f a b x : Nat} {s : ByteArray} {tot : Nat × Nat × Nat × ByteArray} (h : Wd f a b) (e : nrm f a b x s = tot) :
  Jb f (shr1 a b).2.1 (shr1 a b).2.2.1 (shr1 a b).2.2.2 x s tot := by
 unfold shr1
 by_cases hs : a / 16777216 = b / 16777216
 ·rw [if_pos hs]
  cases f with
  | zero => exact absurd hs h.zero
  | succ f =>
   rw [nrm, if_pos hs] at e
   exact .inl ⟨rfl, f, rfl, h.step hs, e⟩
 ·rw [if_neg hs]
  refine .inr ⟨rfl, ?_⟩
  rw [← e]
  cases f with
  | zero => rfl
  | succ f => rw [nrm, if_neg hs]
theorem load_runr {P : Program} {o : Oper} {a : Act} {W : World} {ty : TypeId} {x : Operand} {b o' : Nat} {cs : List Value} {d : TypeDesc} (ho : o.op = .load ty x) (hx : a.eval x = .pointer (some ⟨b, o', none⟩)) (hc : W.rangeAt b o' cs)
  (hu : P.underlying ty = some d) (hd : d.isRow = true) (hi : (P.info? ty).map (·.size) = some cs.length) : (execOp a.eval o).run P W = .ok (.value (.agg cs.toArray)) W := by
 have := run_loadAt_mid (P := P) W b o' ty cs d hc hu hd hi
 simp [execOp, ho, hx, this]
theorem range2 {W : World} {g : Nat} {u v : Value} (h0 : W.cell? ⟨g, 0, none⟩ = some u) (h1 : W.cell? ⟨g, 1, none⟩ = some v) : W.rangeAt g 0 [u, v] := by
 intro j y hy
 match j, hy with
 | 0, hy => simp at hy; subst hy; exact h0
 | 1, hy => simp at hy; subst hy; exact h1
def bitB (a b x p : Nat) : Bool := decide (mid a b p < x)
set_option maxHeartbeats 8000000 in
set_option maxRecDepth 100000 in
theorem Bit_calls (g a b x p : Nat) (s : ByteArray) (w : World) (hS : DecS w g a b x s) (hab : a < b) (hb : b < 4294967296) (hx : x < 4294967296) (hp1 : 1 ≤ p) (hp : p ≤ 2047) :
  Calls Tryd.prog 60 #[.pointer (some ⟨g, 0, none⟩), .int .i64 p] w fun e w' => e = .returned (.tuple #[.bool (bitB a b x p), .int .i64 0]) ∧
   DecS w' g (nrm 4 (tk a b p (bitB a b x p)).1 (tk a b p (bitB a b x p)).2 x s).1 (nrm 4 (tk a b p (bitB a b x p)).1 (tk a b p (bitB a b x p)).2 x s).2.1 (nrm 4 (tk a b p (bitB a b x p)).1 (tk a b p (bitB a b x p)).2 x s).2.2.1 (nrm 4 (tk a b p (bitB a b x p)).1 (tk a b p (bitB a b x p)).2 x s).2.2.2 ∧ w.grownBy w' (some g) := by
 have S0 := zaa.mk hS
 have hc0 := Sp.cell0 hS
 have hc1 := Sp.cell1 hS
 have hc2 := hS.cell2
 have MF := zaa.mk (mid_f a b p (Nat.le_of_lt hab) hb (by omega))
 have BF := zaa.mk (show zcm.f p = some false by
  rw [bad_f]; unfold badP; rw [decide_eq_false (by omega)])
 obtain ⟨bit, hbit⟩ : ∃ z, bitB a b x p = z := ⟨_, rfl⟩
 have tb : decide ((mid a b p : Int) < (x : Int)) = bit := by
  rw [← hbit]; unfold bitB
  exact decide_eq_decide.2 ⟨fun h => by omega, fun h => by omega⟩
 have tb2 : decide (mid a b p < x) = bit := hbit
 rw [hbit]
 have HT := zaa.mk (tk_ok (p := p) (bit := bit) hab (by omega))
 have LT := zaa.mk (show a ≤ b ∧ b < 4294967296 ∧ p ≤ 2048 ∧ x < 4294967296 by omega)
 obtain ⟨a1, ha1⟩ : ∃ x, (tk a b p bit).1 = x := ⟨_, rfl⟩
 obtain ⟨b1, hb1⟩ : ∃ x, (tk a b p bit).2 = x := ⟨_, rfl⟩
 rw [ha1, hb1] at HT
 rw [ha1, hb1]
 have HTA := zaa.mk (And.intro ha1 hb1)
 have WD := zaa.mk (Wd.start HT.out.2.1 (Nat.lt_of_le_of_lt HT.out.2.2 LT.out.2.1))
 have AB := zaa.mk (show a1 < 4294967296 ∧ b1 < 4294967296 by have := HT.out; have := LT.out; omega)
 clear hS hab hb hx hp1 hp hbit ha1 hb1
 go_enter Tryd.func60, Tryd.ntmps60
 go_wp2_with (first
  | (go_at_call 52; (with_reducible refine (zcm.calls p _ _ BF.out).mono ?_); rintro e w1 ⟨rfl, n1, rfl⟩))
 obtain ⟨w2, hw2⟩ : ∃ w2, w.drewN n1 = w2 := ⟨_, rfl⟩
 have S2 := zaa.mk (show DecS (w.drewN n1) g a b x s from S0.out)
 have G2 := zaa.mk (zcf (zab (Below.refl w.heap.size w) n1) (some g))
 rw [hw2] at S2 G2
 rw [hw2]
 clear hw2 hc0 hc1 hc2
 have hc0 := Sp.cell0 S2.out
 have hc1 := Sp.cell1 S2.out
 have hc2 := S2.out.cell2
 refine zcr (n := 12) (S := fun w' => w'.cell? ⟨g, 2, none⟩ = some (.int .u64 x) ∧ w'.cell? ⟨g, 0, none⟩ = some (.int .u64 a) ∧ w'.cell? ⟨g, 1, none⟩ = some (.int .u64 b)) (ds := []) #[false, false, false, false, false, false, false, false, false, false, false, false] (by kernel_rfl) rfl rfl ⟨hc2, hc0, hc1⟩ (fun hHeld => ?_)
 refine pure_ (i := 0) (N := some 15) (v := ?_) (a' := ?_) #[true, false, false, false, false, false, false, false, false, false, false, false] rfl rfl (by kernel_rfl) (fun _ _ _ h => h) (Or.inl ⟨by rfl, ?_⟩) ?_ ?_
 rotate_left
 ·intro w'
  go_simp
  with_reducible rfl
 rotate_left
 ·simp only [Act.put, sAt, sZr, sSc, i64_w, i32_w]
  rfl
 refine pure_ (i := 1) (N := some 16) (v := ?_) (a' := ?_) #[true, true, false, false, false, false, false, false, false, false, false, false] rfl rfl (by kernel_rfl) (fun _ _ _ h => h) (Or.inl ⟨by rfl, ?_⟩) ?_ ?_
 rotate_left
 ·intro w'
  go_simp
  with_reducible rfl
 rotate_left
 ·simp only [Act.put, sAt, sZr, sSc, i64_w, i32_w]
  rfl
 refine pure_ (i := 2) (N := some 17) (v := ?_) (a' := ?_) #[true, true, true, false, false, false, false, false, false, false, false, false] rfl rfl (by kernel_rfl) (fun _ _ _ h => h) (Or.inl ⟨by rfl, ?_⟩) ?_ ?_
 rotate_left
 ·intro w'
  go_simp
  with_reducible rfl
 rotate_left
 ·simp only [Act.put, sAt, sZr, sSc, i64_w, i32_w]
  rfl
 refine pure_ (i := 4) (N := some 19) (v := ?_) (a' := ?_) #[true, true, true, false, true, false, false, false, false, false, false, false] rfl rfl (by kernel_rfl) (fun _ _ _ h => h) (Or.inl ⟨by rfl, ?_⟩) ?_ ?_
 rotate_left
 ·intro w'
  go_simp
  with_reducible rfl
 rotate_left
 ·simp only [Act.put, sAt, sZr, sSc, i64_w, i32_w]
  rfl
 refine pure_ (i := 5) (N := some 20) (v := ?_) (a' := ?_) #[true, true, true, false, true, true, false, false, false, false, false, false] rfl rfl (by kernel_rfl) (fun _ _ _ h => h) (Or.inl ⟨by rfl, ?_⟩) ?_ ?_
 rotate_left
 ·intro w'
  go_simp
  with_reducible rfl
 rotate_left
 ·simp only [Act.put, sAt, sZr, sSc, i64_w, i32_w]
  rfl
 refine pure_ (i := 6) (N := some 21) (v := ?_) (a' := ?_) #[true, true, true, false, true, true, true, false, false, false, false, false] rfl rfl (by kernel_rfl) (fun _ _ _ h => h) (Or.inl ⟨by rfl, ?_⟩) ?_ ?_
 rotate_left
 ·intro w'
  go_simp
  with_reducible rfl
 rotate_left
 ·simp only [Act.put, sAt, sZr, sSc, i64_w, i32_w]
  rfl
 refine pure_ (i := 8) (N := some 23) (v := ?_) (a' := ?_) #[true, true, true, false, true, true, true, false, true, false, false, false] rfl rfl (by kernel_rfl) (fun _ _ _ h => h) (Or.inl ⟨by rfl, ?_⟩) ?_ ?_
 rotate_left
 ·intro w'
  go_simp
  with_reducible rfl
 rotate_left
 ·simp only [Act.put, sAt, sZr, sSc, i64_w, i32_w]
  rfl
 refine take_ (i := 3) (N := some 18) (v := ?_) (a' := ?_) #[true, true, true, true, true, true, true, false, true, false, false, false] rfl rfl (by kernel_rfl) (fun _ _ _ h => h) (Or.inl ⟨by rfl, ?_⟩) hHeld ?_ ?_
 rotate_left
 ·rintro w' ⟨s0, s1, s2⟩
  go_simp
  with_reducible rfl
 rotate_left
 ·simp only [Act.put, sAt, sZr, sSc, i64_w, i32_w]
  rfl
 refine take_ (i := 7) (N := some 22) (v := ?_) (a' := ?_) #[true, true, true, true, true, true, true, true, true, false, false, false] rfl rfl (by kernel_rfl) (fun _ _ _ h => h) (Or.inl ⟨by rfl, ?_⟩) hHeld ?_ ?_
 rotate_left
 ·rintro w' ⟨s0, s1, s2⟩
  refine (load_runr rfl (show _ = Value.pointer (some ⟨g, 0, none⟩) from rfl) (range2 s1 s2) Tryd.underlying127 rfl usz).trans ?_
  with_reducible rfl
 rotate_left
 ·simp only [Act.put, sAt, sZr, sSc, i64_w, i32_w]
  rfl
 refine one_ (i := 9) (N := some 24) #[true, true, true, true, true, true, true, true, true, true, false, false] rfl rfl (by kernel_rfl) (by decide) (fun K hK => ?_)
 refine goes_ Tryd.func78 (by kernel_rfl) rfl #[.agg #[.int .u64 a, .int .u64 b], .int .i64 p] (by rfl) rfl rfl (by simp only [List.map_toArray, List.map_cons, List.map_nil]; rfl) ?_
 with_reducible refine (zbp.calls a b p _ w2.drew MF.out).mono ?_
 rintro e w3 ⟨rfl, hB⟩
 refine ⟨_, rfl, ?_⟩
 have B3 := zaa.mk (zaf (zbl (Below.refl w2.heap.size w2)) hB)
 have D3 := zaa.mk (show DecS w3 g a b x s from Sp.below S2.out (zaf (zbl (Below.refl w2.heap.size w2)) hB))
 clear hB
 refine hK.out _ _ ⟨D3.out.cell2, (Sp.cell0 D3.out), (Sp.cell1 D3.out)⟩ (fun hHeld => ?_)
 clear hK K
 refine norm_ (a' := ?_) ?_ ?_
 rotate_left
 ·show Act.put _ (some 24) _ = _
  simp only [Act.put, sAt, sZr, sSc, i64_w, i32_w]
  rfl
 refine pure_ (i := 10) (N := some 25) (v := ?_) (a' := ?_) #[true, true, true, true, true, true, true, true, true, true, true, false] rfl rfl (by kernel_rfl) (fun _ _ _ h => h) (Or.inl ⟨by rfl, ?_⟩) ?_ ?_
 rotate_left
 ·intro w'
  go_simp
  with_reducible rfl
 rotate_left
 ·simp only [Act.put, sAt, sZr, sSc, i64_w, i32_w]
  rfl
 refine pure_ (i := 11) (N := some 6) (v := ?_) (a' := ?_) #[true, true, true, true, true, true, true, true, true, true, true, true] rfl rfl (by kernel_rfl) (fun _ _ _ h => h) (Or.inl ⟨by rfl, ?_⟩) ?_ ?_
 rotate_left
 ·intro w'
  go_simp
  with_reducible rfl
 rotate_left
 ·simp only [Act.put, sAt, sZr, sSc, i64_w, i32_w]
  rfl
 refine done_ (by kernel_rfl) ?_
 have G3 := zaa.mk (grown_step G2.out (zcf B3.out (some g)))
 have E3 := zaa.mk (show Sp w3 g 133 [.int .u64 x, .string s] a b from D3.out)
 clear hHeld hc0 hc1 hc2 G2 S2 B3
 go_wp2_with (first
  | (go_at_call 75; (with_reducible refine (take_calls g 133 [.int .u64 x, .string s] a b p bit w3 E3.out LT.out.1 LT.out.2.1 LT.out.2.2.1).mono ?_); rintro e w4 ⟨rfl, hS, hG⟩; rw [HTA.out.1, HTA.out.2] at hS; have D4 := zaa.mk hS; have G4 := zaa.mk (grown_step G3.out hG); clear hS hG)
  | (go_at_call 76; (with_reducible refine (shift_calls g 133 [.int .u64 x, .string s] a1 b1 w4 D4.out AB.out.1 AB.out.2).mono ?_); rintro e w5 ⟨rfl, hS, hG⟩; have D5 := zaa.mk hS; have G5 := zaa.mk (grown_step G4.out hG); clear hS hG))
 obtain ⟨tot, htot⟩ : ∃ t, nrm 4 a1 b1 x s = t := ⟨_, rfl⟩
 have JN := zaa.mk (Jb_shift WD.out htot)
 obtain ⟨oki, hoki⟩ : ∃ x, (shr1 a1 b1).2.1 = x := ⟨_, rfl⟩
 obtain ⟨ai, hai⟩ : ∃ x, (shr1 a1 b1).2.2.1 = x := ⟨_, rfl⟩
 obtain ⟨bi, hbi⟩ : ∃ x, (shr1 a1 b1).2.2.2 = x := ⟨_, rfl⟩
 rw [hoki, hai, hbi] at JN
 rw [hai, hbi] at D5
 rw [hoki]
 have HTOT := zaa.mk htot
 have HXL := zaa.mk LT.out.2.2.2
 clear hoki hai hbi htot D3 E3 G3 D4 G4 WD HT LT AB HTA S0 MF BF
 go_loopg [8] 4 (fun q8 v8 w' => ∃ (ok : Bool) (a2 b2 x2 : Nat) (s2 : ByteArray), v8 = .bool ok ∧ zaa (Jb q8 ok a2 b2 x2 s2 tot ∧ x2 < 4294967296) ∧ zaa (Sp w' g 133 [.int .u64 x2, .string s2] a2 b2) ∧ zaa (w.grownBy w' (some g)))
 case atStart => exact ⟨oki, ai, bi, x, s, rfl, ⟨JN.out, HXL.out⟩, D5, G5⟩
 case round =>
  clear JN D5 G5 HXL
  obtain ⟨ok, a2, b2, x2, s2, rfl, JN, D6, G6⟩ := hrel
  rcases JN.out.1 with ⟨hok, f, hq, hw, he⟩ | ⟨hok, he⟩
  ·subst hok
   subst hq
   have HW := zaa.mk (show a2 < 4294967296 ∧ b2 < 4294967296 by have h1 := hw.1; have h2 := hw.2.1; omega)
   have HE := zaa.mk (Jb_shift hw he)
   have HX := zaa.mk JN.out.2
   have N6 := zaa.mk (show DecS wr g a2 b2 x2 s2 from D6.out)
   clear hw he JN
   go_wp2_with (first
    | (go_at_call 77; (with_reducible refine (next_calls g a2 b2 x2 s2 wr N6.out HX.out).mono ?_); rintro e w7 ⟨rfl, hS, hG⟩; have D7 := zaa.mk (show Sp w7 g 133 [.int .u64 (nxX x2 s2 : Nat), .string (nxS s2)] a2 b2 from hS); have G7 := zaa.mk (grown_step G6.out hG); clear hS hG)
    | (go_at_call 76; (with_reducible refine (shift_calls g 133 [.int .u64 (nxX x2 s2 : Nat), .string (nxS s2)] a2 b2 w7 D7.out HW.out.1 HW.out.2).mono ?_); rintro e w8 ⟨rfl, hS, hG⟩; have D8 := zaa.mk hS; have G8 := zaa.mk (grown_step G7.out hG); clear hS hG))
   go_roundg f
   case measure => omega
   case rel => exact ⟨_, _, _, _, _, rfl, ⟨HE.out, nxX_lt x2 s2⟩, D8, G8⟩
  ·subst hok
   have HE := zaa.mk he
   clear he JN
   go_wp2
   go_ret2
   rw [HTOT.out, ← HE.out]
   exact ⟨rfl, D6.out, G6.out⟩
end Go.Proofs.YtdifgiceallpiaaDoor.Hd
/- What a decoder has, and Bit of what is none, and of a bad chance, walked by hand. -/
namespace Go.Proofs.YtdifgiceallpiaaDoor.Hd
open Go.RowKit YtdifgiceallpiaaDoorW.PrintWords YtdifgiceallpiaaDoorW.PrintLast YtdifgiceallpiaaDoorW.PrintMore YtdifgiceallpiaaDoor.Hw YtdifgiceallpiaaDoor.Com YtdifgiceallpiaaDoor.Rn YtdifgiceallpiaaDoor.P
attribute [local go_sem] za9 za8 zbi zbj za0 za1 zba zbb
abbrev Ds := Nat × Nat × Nat × ByteArray
def dB (d : Ds) (p : Nat) : Bool := bitB d.1 d.2.1 d.2.2.1 p
def dN (d : Ds) (p : Nat) : Ds := nrm 4 (tk d.1 d.2.1 p (dB d p)).1 (tk d.1 d.2.1 p (dB d p)).2 d.2.2.1 d.2.2.2
def OkD (d : Ds) : Prop := d.1 < d.2.1 ∧ d.2.1 < 4294967296 ∧ d.2.2.1 < 4294967296
theorem nrm_ok {f a b x : Nat} {s : ByteArray} (h : Wd f a b) (hx : x < 4294967296) : OkD (nrm f a b x s) := by
 induction f generalizing a b x s with
 | zero =>
  have h0 := h.zero
  obtain ⟨h1, h2, _, _⟩ := h
  exact ⟨by show a < b; omega, h2, hx⟩
 | succ f ih =>
  rw [nrm]
  by_cases e : a / 16777216 = b / 16777216
  ·rw [if_pos e]
   exact ih (h.step e) (nxX_lt x s)
  ·rw [if_neg e]
   obtain ⟨h1, h2, _, _⟩ := h
   exact ⟨by show a < b; omega, h2, hx⟩
theorem dN_ok {d : Ds} {p : Nat} (h : OkD d) (hp : p < 2048) : OkD (dN d p) := by
 have ht := tk_ok (p := p) (bit := dB d p) h.1 hp
 exact nrm_ok (Wd.start ht.2.1 (Nat.lt_of_le_of_lt ht.2.2 h.2.1)) h.2.2
def dec : List Int → Ds → List Bool
 | [], _ => []
 | p :: t, d => dB d p.toNat :: dec t (dN d p.toNat)
def dStart (s : ByteArray) : Ds := (0, 4294967295, (nit 4 0 s).1, (nit 4 0 s).2)
theorem dStart_ok (s : ByteArray) : OkD (dStart s) := ⟨by show 0 < 4294967295; omega, by show 4294967295 < 4294967296; omega, nit_lt 4 0 s (by decide)⟩
def DecD (W : World) (g : Nat) (d : Ds) : Prop := DecS W g d.1 d.2.1 d.2.2.1 d.2.2.2
theorem Bit_d (g : Nat) (d : Ds) (p : Nat) (w : World) (hS : DecD w g d) (ho : OkD d) (hp1 : 1 ≤ p) (hp : p ≤ 2047) :
  Calls Tryd.prog 60 #[.pointer (some ⟨g, 0, none⟩), .int .i64 p] w fun e w' => e = .returned (.tuple #[.bool (dB d p), .int .i64 0]) ∧ DecD w' g (dN d p) ∧ w.grownBy w' (some g) :=
 Bit_calls g d.1 d.2.1 d.2.2.1 p d.2.2.2 w hS ho.1 ho.2.1 ho.2.2 hp1 hp
end Go.Proofs.YtdifgiceallpiaaDoor.Hd
/- Words: a block made, and a block stored. -/
namespace Go.Proofs.YtdifgiceallpiaaDoor.Hd
open Go.RowKit YtdifgiceallpiaaDoorW.PrintWords YtdifgiceallpiaaDoorW.PrintLast YtdifgiceallpiaaDoorW.PrintMore YtdifgiceallpiaaDoor.Hw YtdifgiceallpiaaDoor.Com YtdifgiceallpiaaDoor.Rn YtdifgiceallpiaaDoor.P
theorem alloc_any {P : Program} {ops : Array Oper} {rest : List Oper} {o : Oper} {a : Act} {Q : Exit → Act → World → Prop} {W : World} (hgd : o.guard = none) {t : TypeId} {z : Value} {size bytes : Nat} {cs : Array Value} (ho : o.op = .alloc t) (hinfo : (P.info? t).map (fun i => (i.zero, i.size, i.bytes)) = some (some z, size, bytes)) (hc : z.cells = cs)
  (h : ∀ g w1, zaa (W.heap.size ≤ g) → zaa (w1.heap[g]? = some (.cells cs t (0, 0))) → zaa (Below W.heap.size W w1) → wpList P ops Q rest (a.put o.dst (.pointer (some ⟨g, 0, none⟩))) w1) : wpList P ops Q (o :: rest) a W :=
 alloc_event hgd ho hinfo hc (h _ _ ⟨Nat.le_refl _⟩ ⟨zck W _⟩ ⟨zac (Below.refl _ _) _⟩)
end Go.Proofs.YtdifgiceallpiaaDoor.Hd
end
