/- ranger's span, walked by hand: in a variable of its own, or in a Decoder. -/
import Derived.Test.YtfijcedckpkpfaaPx1
import Derived.Test.YtfijcedckpkpfaaRn
import Derived.Test.YtfijcedckpkpfaaHw2
import Derived.Deep.MidRow
import Derived.BigQuiet
import Derived.StillTailTactics
import Derived.Laws.BitsLemmas
set_option linter.unusedVariables false
set_option linter.unusedSimpArgs false
set_option linter.unusedSectionVars false
namespace Go.Proofs.Ytfijcedckpkpfaa.Hd
open Go.RowKit Go.Proofs.YtfijcedckpkpfaaW.PrintWords Go.Proofs.YtfijcedckpkpfaaW.PrintLast Go.Proofs.YtfijcedckpkpfaaW.PrintMore Go.Proofs.Ytfijcedckpkpfaa.Hw Go.Proofs.Ytfijcedckpkpfaa.Com Go.Proofs.Ytfijcedckpkpfaa.Rn Go.Proofs.Ytfijcedckpkpfaa.P
attribute [local go_sem] max2_int min2_int max_two min_two max_three min_three max_four min_four
/-- A span at the head of a block. -/
def Sp (W : World) (g : Nat) (t : TypeId) (rest : List Value) (a b : Int) : Prop := W.heap[g]? = some (.cells (Value.int .u64 a :: Value.int .u64 b :: rest).toArray t (0, 0))
section
variable {W W1 : World} {g : Nat} {t : TypeId} {rest : List Value} {a b : Int}
theorem Sp.cell0 (h : Sp W g t rest a b) : W.cell? ⟨g, 0, none⟩ = some (.int .u64 a) := (blk_cell h 0).trans rfl
theorem Sp.cell1 (h : Sp W g t rest a b) : W.cell? ⟨g, 1, none⟩ = some (.int .u64 b) := (blk_cell h 1).trans rfl
theorem Sp.free (h : Sp W g t rest a b) (i : Nat) : W.frozen? ⟨g, i, none⟩ = false := blk_frozen h i
theorem Sp.below (h : Sp W g t rest a b) (hb : Below W.heap.size W W1) : Sp W1 g t rest a b := blk_below h hb
theorem Sp.lt (h : Sp W g t rest a b) : g < W.heap.size := blk_lt h
theorem Sp.grown (h : Sp W g t rest a b) {row : Option Nat} (hg : W.grownBy W1 row) (hne : some g ≠ row) : Sp W1 g t rest a b := blk_grown h hg hne
theorem Sp.set0 (h : Sp W g t rest a b) (x : Int) : Sp (W.setCell ⟨g, 0, none⟩ (.int .u64 x)) g t rest x b := blk_put h 0 _ (by simp)
theorem Sp.set1 (h : Sp W g t rest a b) (x : Int) : Sp (W.setCell ⟨g, 1, none⟩ (.int .u64 x)) g t rest a x := blk_put h 1 _ (by simp)
theorem Sp.range (h : Sp W g t rest a b) : W.rangeAt g 0 [.int .u64 a, .int .u64 b] := by
  intro j v hv
  match j, hv with
  | 0, hv => simp at hv; subst hv; exact h.cell0
  | 1, hv => simp at hv; subst hv; exact h.cell1
end
theorem grown_refl (w : World) (row : Option Nat) : w.grownBy w row := ⟨rfl, rfl, rfl, Nat.le_refl _, fun _ _ _ => rfl⟩
theorem grown_below {w w1 : World} (h : Below w.heap.size w w1) (row : Option Nat) : w.grownBy w1 row := ⟨h.os, h.tape, h.output, h.size, fun i hi _ => h.block i hi⟩
theorem grown_step {w w1 w2 : World} {row : Option Nat} (h : w.grownBy w1 row) (k : w1.grownBy w2 row) : w.grownBy w2 row :=
  ⟨k.os.trans h.os, k.tape.trans h.tape, k.output.trans h.output, Nat.le_trans h.size k.size, fun i hi hne => (k.block i (Nat.lt_of_lt_of_le hi h.size) hne).trans (h.block i hi hne)⟩
theorem grown_cell {w w1 : World} {g : Nat} (h : w.grownBy w1 (some g)) (i : Nat) (u : Value) : w.grownBy (w1.setCell ⟨g, i, none⟩ u) (some g) := grown_set h i u
theorem mid_f (a b p : Nat) (h : a ≤ b) (hb : b < 4294967296) (hp : p ≤ 2048) : ranger_span_middle.f a b p = some (mid a b p : Int) := by
  have hm := mid_le h hp
  have e1 : IntKind.u64.wrap ((b : Int) - a) = ((b - a : Nat) : Int) := by rw [wu64 (by omega) (by omega)]; omega
  have e2 : Int.tdiv ((b - a : Nat) : Int) 2048 = (((b - a) / 2048 : Nat) : Int) := by
    rw [Int.tdiv_eq_ediv_of_nonneg (by omega)]; simp
  have h1 : (b - a) / 2048 * p ≤ b := by unfold mid at hm; omega
  have e3 : (((b - a) / 2048 : Nat) : Int) * (p : Int) = (((b - a) / 2048 * p : Nat) : Int) := by simp
  unfold ranger_span_middle.f
  rw [e1, e2, wu64 (x := (((b - a) / 2048 : Nat) : Int)) (by omega) (by omega), wu64 (x := (p : Int)) (by omega) (by omega), e3, wu64 (x := (((b - a) / 2048 * p : Nat) : Int)) (by omega) (by omega), wu64 (by unfold mid at hm; omega) (by unfold mid at hm; omega)]
  unfold mid
  congr 1
theorem usz : (Try.prog.info? 59).map (·.size) = some 2 := by kernel_rfl
set_option maxHeartbeats 4000000 in
set_option maxRecDepth 100000 in
theorem take_calls (g : Nat) (t : TypeId) (rest : List Value) (a b p : Nat) (bit : Bool) (w : World) (hS : Sp w g t rest a b) (h : a ≤ b) (hb : b < 4294967296) (hp : p ≤ 2048) :
    Calls Try.prog 27 #[.pointer (some ⟨g, 0, none⟩), .int .i64 p, .bool bit] w fun e w' => e = .returned (.tuple #[]) ∧ Sp w' g t rest (tk a b p bit).1 (tk a b p bit).2 ∧ w.grownBy w' (some g) := by
  have S0 := Aside0.mk hS
  have MF := Aside0.mk (mid_f a b p h hb hp)
  have hm := (mid_le h hp).2
  have EM := Aside0.mk (show IntKind.u64.wrap ((mid a b p : Int) + 1) = ((mid a b p + 1 : Nat) : Int) by rw [wu64 (by omega) (by omega)]; omega)
  clear hS h hb hp hm
  cases bit with
  | false =>
    go_enter Try.func27, Try.ntmps27
    go_wp2_with (first
      | ((with_reducible refine gate_dst (N := 9) rfl ?_); refine wpList_load_mid rfl 59 (.tmp 8) rfl g 0 rfl [.int .u64 a, .int .u64 b] _ S0.out.range Try.underlying59 rfl usz ?_)
      | (go_at_call 26; (with_reducible refine (ranger_span_middle.calls a b p _ _ MF.out).mono ?_); rintro e w1 ⟨rfl, hB⟩; have B1 := Aside0.mk hB; have S1 := Aside0.mk (S0.out.below hB); have hc0 := S1.out.cell0; have hc1 := S1.out.cell1; have hf0 := S1.out.free 0; have hf1 := S1.out.free 1; clear hB))
    first | go_end0 | ((try simp only [Exit.inBlock, Exit.then]); refine bodyPost_ret (results_none rfl _ _ _) rfl ?_)
    exact ⟨rfl, S1.out.set1 _, grown_cell (grown_below B1.out _) _ _⟩
  | true =>
    go_enter Try.func27, Try.ntmps27
    go_wp2_with (first
      | ((with_reducible refine gate_dst (N := 9) rfl ?_); refine wpList_load_mid rfl 59 (.tmp 8) rfl g 0 rfl [.int .u64 a, .int .u64 b] _ S0.out.range Try.underlying59 rfl usz ?_)
      | (go_at_call 26; (with_reducible refine (ranger_span_middle.calls a b p _ _ MF.out).mono ?_); rintro e w1 ⟨rfl, hB⟩; have B1 := Aside0.mk hB; have S1 := Aside0.mk (S0.out.below hB); have hc0 := S1.out.cell0; have hc1 := S1.out.cell1; have hf0 := S1.out.free 0; have hf1 := S1.out.free 1; clear hB))
    first | go_end0 | ((try simp only [Exit.inBlock, Exit.then]); refine bodyPost_ret (results_none rfl _ _ _) rfl ?_)
    rw [EM.out]
    exact ⟨rfl, S1.out.set0 _, grown_cell (grown_below B1.out _) _ _⟩
/-- What shift answers, and leaves. -/
def shr1 (a b : Nat) : Nat × Bool × Nat × Nat := if a / 16777216 = b / 16777216 then (a / 16777216, true, sa a, sb b) else (0, false, a, b)
theorem shr24 (a : Nat) : (a : Int) / 2 ^ 24 = ((a / 16777216 : Nat) : Int) := by
  have e : ((2 : Int) ^ 24) = 16777216 := by decide
  rw [e]; simp
theorem low24 (a : Nat) (h : a < 4294967296) : Go.bits .and .u64 (a : Int) 16777215 = ((a % 16777216 : Nat) : Int) := by
  have := (bits_u64 a 16777215 (by omega) (by omega)).1
  have e : a &&& 16777215 = a % 16777216 := Nat.and_two_pow_sub_one_eq_mod a 24
  rw [e] at this
  exact this
theorem or255 (a : Nat) (h : a < 4294967296) : Go.bits .or .u64 ((a * 256 : Nat) : Int) 255 = ((a * 256 + 255 : Nat) : Int) := by
  have := (bits_u64 (a * 256) 255 (by omega) (by omega)).2
  rw [or_join (a * 256) 255 8 (by omega) (by omega)] at this
  exact this
set_option maxHeartbeats 4000000 in
set_option maxRecDepth 100000 in
theorem shift_calls (g : Nat) (t : TypeId) (rest : List Value) (a b : Nat) (w : World) (hS : Sp w g t rest a b) (ha : a < 4294967296) (hb : b < 4294967296) :
    Calls Try.prog 28 #[.pointer (some ⟨g, 0, none⟩)] w fun e w' => e = .returned (.tuple #[.int .u8 (shr1 a b).1, .bool (shr1 a b).2.1]) ∧ Sp w' g t rest (shr1 a b).2.2.1 (shr1 a b).2.2.2 ∧ w.grownBy w' (some g) := by
  have S0 := Aside0.mk hS
  have hc0 := hS.cell0
  have hc1 := hS.cell1
  have hf0 := hS.free 0
  have hf1 := hS.free 1
  by_cases e : a / 16777216 = b / 16777216
  · have e1 : shr1 a b = (a / 16777216, true, sa a, sb b) := if_pos e
    rw [e1]
    have t1 : ((a : Int) / 16777216 != (b : Int) / 16777216) = false := by rw [bne_eq_false_iff_eq]; omega
    have HA := Aside0.mk (And.intro ha hb)
    clear hS ha hb e1 e
    go_enter Try.func28, Try.ntmps28
    have EA := Aside0.mk (show IntKind.u64.wrap (Go.bits .and .u64 (a : Int) 16777215 * 256) = ((sa a : Nat) : Int) by
      rw [low24 a HA.out.1, wu64 (by omega) (by omega)]
      unfold sa; omega)
    have EB := Aside0.mk (show Go.bits .or .u64 (IntKind.u64.wrap (Go.bits .and .u64 (b : Int) 16777215 * 256)) 255 = ((sb b : Nat) : Int) by
      have e2 : ((b % 16777216 : Nat) : Int) * 256 = ((b % 16777216 * 256 : Nat) : Int) := by omega
      rw [low24 b HA.out.2, e2, wu64 (by omega) (by omega), or255 _ (by omega)]
      rfl)
    have EC := Aside0.mk (show (a : Int) / 16777216 % 256 = ((a / 16777216 : Nat) : Int) by have := HA.out; omega)
    go_wp2
    go_quiet (fail)
    go_wp2
    obtain ⟨w2, hw2⟩ : ∃ w2, w.drewN nq = w2 := ⟨_, rfl⟩
    have S2 := Aside0.mk (show Sp (w.drewN nq) g t rest a b from S0.out)
    have GW := Aside0.mk (grown_below (pw_below_drewN (Below.refl w.heap.size w) nq) (some g))
    rw [hw2] at S2 GW
    rw [hw2]
    obtain ⟨XA, hXA⟩ : ∃ x, IntKind.u64.wrap (Go.bits .and .u64 (a : Int) 16777215 * 256) = x := ⟨_, rfl⟩
    rw [hXA] at EA
    have D2 := Aside0.mk (show Sp w2.drew g t rest a b from S2.out)
    clear hw2 hc0 hc1 hf0 hf1
    subst hXA
    refine start_ (n := 21) (S := fun w' => w'.cell? ⟨g, 0, none⟩ = some (.int .u64 a) ∧ w'.cell? ⟨g, 1, none⟩ = some (.int .u64 b)) (ds := [17, 20]) #[false, false, false, false, false, false, false, false, false, false, false, false, false, false, false, false, false, false, false, false, false] (by kernel_rfl) rfl rfl ⟨D2.out.cell0, D2.out.cell1⟩ (fun hHeld => ?_)
    refine pure_ (i := 0) (N := some 22) (v := ?_) (a' := ?_) #[true, false, false, false, false, false, false, false, false, false, false, false, false, false, false, false, false, false, false, false, false] rfl rfl (by kernel_rfl) (fun _ _ _ h => h) (Or.inl ⟨by rfl, ?_⟩) ?_ ?_
    rotate_left
    · intro w'
      go_simp
      with_reducible rfl
    rotate_left
    · simp only [Act.put, List.setIfInBounds_toArray, List.set_cons_zero, List.set_cons_succ, i64_w, i32_w]
      rfl
    refine pure_ (i := 1) (N := some 23) (v := ?_) (a' := ?_) #[true, true, false, false, false, false, false, false, false, false, false, false, false, false, false, false, false, false, false, false, false] rfl rfl (by kernel_rfl) (fun _ _ _ h => h) (Or.inl ⟨by rfl, ?_⟩) ?_ ?_
    rotate_left
    · intro w'
      go_simp
      with_reducible rfl
    rotate_left
    · simp only [Act.put, List.setIfInBounds_toArray, List.set_cons_zero, List.set_cons_succ, i64_w, i32_w]
      rfl
    refine pure_ (i := 2) (N := some 24) (v := ?_) (a' := ?_) #[true, true, true, false, false, false, false, false, false, false, false, false, false, false, false, false, false, false, false, false, false] rfl rfl (by kernel_rfl) (fun _ _ _ h => h) (Or.inl ⟨by rfl, ?_⟩) ?_ ?_
    rotate_left
    · intro w'
      go_simp
      with_reducible rfl
    rotate_left
    · simp only [Act.put, List.setIfInBounds_toArray, List.set_cons_zero, List.set_cons_succ, i64_w, i32_w]
      rfl
    refine pure_ (i := 3) (N := some 25) (v := ?_) (a' := ?_) #[true, true, true, true, false, false, false, false, false, false, false, false, false, false, false, false, false, false, false, false, false] rfl rfl (by kernel_rfl) (fun _ _ _ h => h) (Or.inl ⟨by rfl, ?_⟩) ?_ ?_
    rotate_left
    · intro w'
      go_simp
      with_reducible rfl
    rotate_left
    · simp only [Act.put, List.setIfInBounds_toArray, List.set_cons_zero, List.set_cons_succ, i64_w, i32_w]
      rfl
    refine pure_ (i := 4) (N := some 26) (v := ?_) (a' := ?_) #[true, true, true, true, true, false, false, false, false, false, false, false, false, false, false, false, false, false, false, false, false] rfl rfl (by kernel_rfl) (fun _ _ _ h => h) (Or.inl ⟨by rfl, ?_⟩) ?_ ?_
    rotate_left
    · intro w'
      go_simp
      with_reducible rfl
    rotate_left
    · simp only [Act.put, List.setIfInBounds_toArray, List.set_cons_zero, List.set_cons_succ, i64_w, i32_w]
      rfl
    refine pure_ (i := 8) (N := some 30) (v := ?_) (a' := ?_) #[true, true, true, true, true, false, false, false, true, false, false, false, false, false, false, false, false, false, false, false, false] rfl rfl (by kernel_rfl) (fun _ _ _ h => h) (Or.inl ⟨by rfl, ?_⟩) ?_ ?_
    rotate_left
    · intro w'
      go_simp
      with_reducible rfl
    rotate_left
    · simp only [Act.put, List.setIfInBounds_toArray, List.set_cons_zero, List.set_cons_succ, i64_w, i32_w]
      rfl
    refine pure_ (i := 9) (N := some 31) (v := ?_) (a' := ?_) #[true, true, true, true, true, false, false, false, true, true, false, false, false, false, false, false, false, false, false, false, false] rfl rfl (by kernel_rfl) (fun _ _ _ h => h) (Or.inl ⟨by rfl, ?_⟩) ?_ ?_
    rotate_left
    · intro w'
      go_simp
      with_reducible rfl
    rotate_left
    · simp only [Act.put, List.setIfInBounds_toArray, List.set_cons_zero, List.set_cons_succ, i64_w, i32_w]
      rfl
    refine pure_ (i := 10) (N := some 32) (v := ?_) (a' := ?_) #[true, true, true, true, true, false, false, false, true, true, true, false, false, false, false, false, false, false, false, false, false] rfl rfl (by kernel_rfl) (fun _ _ _ h => h) (Or.inl ⟨by rfl, ?_⟩) ?_ ?_
    rotate_left
    · intro w'
      go_simp
      with_reducible rfl
    rotate_left
    · simp only [Act.put, List.setIfInBounds_toArray, List.set_cons_zero, List.set_cons_succ, i64_w, i32_w]
      rfl
    refine take_ (i := 5) (N := some 27) (v := ?_) (a' := ?_) #[true, true, true, true, true, true, false, false, true, true, true, false, false, false, false, false, false, false, false, false, false] rfl rfl (by kernel_rfl) (fun _ _ _ h => h) (Or.inl ⟨by rfl, ?_⟩) hHeld ?_ ?_
    rotate_left
    · rintro w' ⟨s0, s1⟩
      go_simp
      with_reducible rfl
    rotate_left
    · simp only [Act.put, List.setIfInBounds_toArray, List.set_cons_zero, List.set_cons_succ, i64_w, i32_w]
      rfl
    refine pure_ (i := 6) (N := some 28) (v := ?_) (a' := ?_) #[true, true, true, true, true, true, true, false, true, true, true, false, false, false, false, false, false, false, false, false, false] rfl rfl (by kernel_rfl) (fun _ _ _ h => h) (Or.inl ⟨by rfl, ?_⟩) ?_ ?_
    rotate_left
    · intro w'
      go_simp
      with_reducible rfl
    rotate_left
    · simp only [Act.put, List.setIfInBounds_toArray, List.set_cons_zero, List.set_cons_succ, i64_w, i32_w]
      rfl
    refine pure_ (i := 7) (N := some 29) (v := ?_) (a' := ?_) #[true, true, true, true, true, true, true, true, true, true, true, false, false, false, false, false, false, false, false, false, false] rfl rfl (by kernel_rfl) (fun _ _ _ h => h) (Or.inl ⟨by rfl, ?_⟩) ?_ ?_
    rotate_left
    · intro w'
      go_simp
      with_reducible rfl
    rotate_left
    · simp only [Act.put, List.setIfInBounds_toArray, List.set_cons_zero, List.set_cons_succ, i64_w, i32_w]
      rfl
    refine take_ (i := 11) (N := some 33) (v := ?_) (a' := ?_) #[true, true, true, true, true, true, true, true, true, true, true, true, false, false, false, false, false, false, false, false, false] rfl rfl (by kernel_rfl) (fun _ _ _ h => h) (Or.inl ⟨by rfl, ?_⟩) hHeld ?_ ?_
    rotate_left
    · rintro w' ⟨s0, s1⟩
      go_simp
      with_reducible rfl
    rotate_left
    · simp only [Act.put, List.setIfInBounds_toArray, List.set_cons_zero, List.set_cons_succ, i64_w, i32_w]
      rfl
    refine pure_ (i := 12) (N := some 34) (v := ?_) (a' := ?_) #[true, true, true, true, true, true, true, true, true, true, true, true, true, false, false, false, false, false, false, false, false] rfl rfl (by kernel_rfl) (fun _ _ _ h => h) (Or.inl ⟨by rfl, ?_⟩) ?_ ?_
    rotate_left
    · intro w'
      go_simp
      with_reducible rfl
    rotate_left
    · simp only [Act.put, List.setIfInBounds_toArray, List.set_cons_zero, List.set_cons_succ, i64_w, i32_w]
      rfl
    refine pure_ (i := 13) (N := some 35) (v := ?_) (a' := ?_) #[true, true, true, true, true, true, true, true, true, true, true, true, true, true, false, false, false, false, false, false, false] rfl rfl (by kernel_rfl) (fun _ _ _ h => h) (Or.inl ⟨by rfl, ?_⟩) ?_ ?_
    rotate_left
    · intro w'
      go_simp
      with_reducible rfl
    rotate_left
    · simp only [Act.put, List.setIfInBounds_toArray, List.set_cons_zero, List.set_cons_succ, i64_w, i32_w]
      rfl
    refine pure_ (i := 14) (N := some 36) (v := ?_) (a' := ?_) #[true, true, true, true, true, true, true, true, true, true, true, true, true, true, true, false, false, false, false, false, false] rfl rfl (by kernel_rfl) (fun _ _ _ h => h) (Or.inl ⟨by rfl, ?_⟩) ?_ ?_
    rotate_left
    · intro w'
      go_simp
      with_reducible rfl
    rotate_left
    · simp only [Act.put, List.setIfInBounds_toArray, List.set_cons_zero, List.set_cons_succ, i64_w, i32_w]
      rfl
    refine pure_ (i := 15) (N := some 37) (v := ?_) (a' := ?_) #[true, true, true, true, true, true, true, true, true, true, true, true, true, true, true, true, false, false, false, false, false] rfl rfl (by kernel_rfl) (fun _ _ _ h => h) (Or.inl ⟨by rfl, ?_⟩) ?_ ?_
    rotate_left
    · intro w'
      go_simp
      with_reducible rfl
    rotate_left
    · simp only [Act.put, List.setIfInBounds_toArray, List.set_cons_zero, List.set_cons_succ, i64_w, i32_w]
      rfl
    refine pure_ (i := 16) (N := some 38) (v := ?_) (a' := ?_) #[true, true, true, true, true, true, true, true, true, true, true, true, true, true, true, true, true, false, false, false, false] rfl rfl (by kernel_rfl) (fun _ _ _ h => h) (Or.inl ⟨by rfl, ?_⟩) ?_ ?_
    rotate_left
    · intro w'
      go_simp
      with_reducible rfl
    rotate_left
    · simp only [Act.put, List.setIfInBounds_toArray, List.set_cons_zero, List.set_cons_succ, i64_w, i32_w]
      rfl
    refine last_ (i := 17) (N := none) #[true, true, true, true, true, true, true, true, true, true, true, true, true, true, true, true, true, true, false, false, false] rfl rfl (by kernel_rfl) (by decide) (fun K hK => ?_)
    have hy0 := D2.out.cell0
    have hz0 := D2.out.free 0
    refine skip_ (w1 := ?_) (by rfl) rfl ?_ ?_
    rotate_left
    · go_simp
      rfl
    refine hK.out _ _ ?_
    clear hK K
    refine pure_ (i := 18) (N := some 39) (v := ?_) (a' := ?_) #[true, true, true, true, true, true, true, true, true, true, true, true, true, true, true, true, true, true, true, false, false] rfl rfl (by kernel_rfl) (fun _ _ _ h => h) (Or.inl ⟨by rfl, ?_⟩) ?_ ?_
    rotate_left
    · intro w'
      go_simp
      with_reducible rfl
    rotate_left
    · simp only [Act.put, List.setIfInBounds_toArray, List.set_cons_zero, List.set_cons_succ, i64_w, i32_w]
      rfl
    refine pure_ (i := 19) (N := some 40) (v := ?_) (a' := ?_) #[true, true, true, true, true, true, true, true, true, true, true, true, true, true, true, true, true, true, true, true, false] rfl rfl (by kernel_rfl) (fun _ _ _ h => h) (Or.inl ⟨by rfl, ?_⟩) ?_ ?_
    rotate_left
    · intro w'
      go_simp
      with_reducible rfl
    rotate_left
    · simp only [Act.put, List.setIfInBounds_toArray, List.set_cons_zero, List.set_cons_succ, i64_w, i32_w]
      rfl
    refine last_ (i := 20) (N := none) #[true, true, true, true, true, true, true, true, true, true, true, true, true, true, true, true, true, true, true, true, true] rfl rfl (by kernel_rfl) (by decide) (fun K hK => ?_)
    have D3 := Aside0.mk (D2.out.set0 (IntKind.u64.wrap (Go.bits .and .u64 (a : Int) 16777215 * 256)))
    have hy1 := D3.out.cell1
    have hz1 := D3.out.free 1
    have hy2 := S2.out.cell1
    have hz2 := S2.out.free 1
    refine skip_ (w1 := ?_) (by rfl) rfl ?_ ?_
    rotate_left
    · go_simp
      rfl
    refine hK.out _ _ ?_
    clear hK K
    refine done_ (by kernel_rfl) ?_
    clear hHeld hy0 hz0 hy1 hz1 hy2 hz2
    go_wp2
    go_ret2
    have D4 := D3.out.set1 (Go.bits .or .u64 (IntKind.u64.wrap (Go.bits .and .u64 (b : Int) 16777215 * 256)) 255)
    rw [EA.out, EB.out] at *
    refine ⟨?_, D4, grown_step (grown_cell (grown_cell GW.out 0 _) 1 _) (grown_below (below_drew (Below.refl _ _)) _)⟩
    first | rfl | (rw [EC.out]; rfl)
  · have e1 : shr1 a b = (0, false, a, b) := if_neg e
    rw [e1]
    have t1 : ((a : Int) / 16777216 != (b : Int) / 16777216) = true := by rw [bne_iff_ne]; omega
    clear hS ha hb e1 e
    go_enter Try.func28, Try.ntmps28
    go_wp2
    go_quiet (fail)
    go_wp2
    go_ret2
    exact ⟨rfl, S0.out, grown_below (pw_below_drewN (Below.refl w.heap.size w) nq) (some g)⟩
end Go.Proofs.Ytfijcedckpkpfaa.Hd
