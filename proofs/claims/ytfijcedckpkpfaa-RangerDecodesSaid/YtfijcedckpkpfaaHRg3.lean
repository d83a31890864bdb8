/- ranger.encode's last bytes (the deferred closure), walked by hand. -/
import Derived.Test.YtfijcedckpkpfaaHRg2
import Derived.Defers
set_option linter.unusedVariables false
set_option linter.unusedSimpArgs false
set_option linter.unusedSectionVars false
namespace Go.Proofs.Ytfijcedckpkpfaa.Hd
open Go.RowKit Go.Proofs.YtfijcedckpkpfaaW.PrintWords Go.Proofs.YtfijcedckpkpfaaW.PrintLast Go.Proofs.YtfijcedckpkpfaaW.PrintMore Go.Proofs.Ytfijcedckpkpfaa.Hw Go.Proofs.Ytfijcedckpkpfaa.Com Go.Proofs.Ytfijcedckpkpfaa.Rn Go.Proofs.Ytfijcedckpkpfaa.P
attribute [local go_sem] max2_int min2_int max_two min_two max_three min_three max_four min_four
/-- A row that is made, in a variable. -/
def Ov (W : World) (g : Nat) (v : Value) : Prop := W.heap[g]? = some (.cells #[v] 52 (0, 0))
theorem info5 : (Try.prog.info? 5).map (fun i => (i.zero, i.size, i.bytes)) = some (some (.int .u8 0), 1, 1) := by kernel_rfl
theorem below_row {B : Nat} {w0 w w1 : World} {row : Option Nat} (h : Below B w0 w) (hg : w.grownBy w1 row) (hr : ∀ k, row = some k → B ≤ k) (hBs : B ≤ w.heap.size) : Below B w0 w1 :=
  ⟨hg.os.trans h.os, hg.tape.trans h.tape, hg.output.trans h.output, Nat.le_trans h.size hg.size, fun i hi => (hg.block i (by omega) (fun e => by have := hr i e.symm; omega)).trans (h.block i hi)⟩
/-- The last bytes, highest first. -/
def lastB (a m : Nat) : List Int := (List.range m).map (fun i => ((a / 2 ^ (24 - 8 * i) % 256 : Nat) : Int))
theorem lastB_step (a m : Nat) : lastB a m ++ [((a / 2 ^ (24 - 8 * m) % 256 : Nat) : Int)] = lastB a (m + 1) := by simp [lastB, List.range_succ]
set_option maxHeartbeats 4000000 in
set_option maxRecDepth 100000 in
theorem last_calls (g4 g5 : Nat) (v : Value) (xs : List Int) (a : Nat) (b : Int) (base : Nat) (w : World) (u : FrameMode) (hX : Ov w g4 v) (hR : Kd.R (Kd.int .u8) 5 w base (fun _ => True) v xs) (hW : Sp w g5 59 [] a b) (hb4 : base ≤ g4) (ha : a < 4294967296) (hxs : xs.length ≤ 1099511627776) :
    CallsD Try.prog 31 #[.pointer (some ⟨g4, 0, none⟩), .pointer (some ⟨g5, 0, none⟩)] u w fun e u' w' => u' = u ∧ (e = .returned (.tuple #[]) ∧ ∃ v' : Value, Ov w' g4 v' ∧ Kd.R (Kd.int .u8) 5 w' base (fun _ => True) v' (xs ++ lastB a 4) ∧ Below base w w') := by
  have HX0 := Aside0.mk hX
  have HR0 := Aside0.mk hR
  have HW0 := Aside0.mk hW
  have HB := Aside0.mk hb4
  have HA := Aside0.mk ha
  have HLX := Aside0.mk hxs
  clear hX hR hW hb4 ha hxs
  go_enter_d Try.func31, Try.ntmps31
  go_wp2
  go_loopg [3] 4 (fun q v3 w' => ∃ (L : Int) (m : Nat) (v' : Value), v3 = .int .i64 L ∧ Aside0 (L = (m : Int) ∧ m + q = 4) ∧ Aside0 (Ov w' g4 v') ∧ Aside0 (Kd.R (Kd.int .u8) 5 w' base (fun _ => True) v' (xs ++ lastB a m)) ∧ Aside0 (Sp w' g5 59 [] a b) ∧ Aside0 (Below base w w'))
  case atStart => exact ⟨0, 0, v, rfl, ⟨rfl, rfl⟩, HX0, ⟨(List.append_nil xs).symm ▸ HR0.out⟩, HW0, ⟨Below.refl _ _⟩⟩
  case round =>
    clear HX0 HR0 HW0
    obtain ⟨L, m, v', rfl, HM, X, R, W, B⟩ := hrel
    cases gk with
    | zero =>
      have t1 : decide (L < 4) = false := decide_eq_false (by have := HM.out; omega)
      have em : m = 4 := by have := HM.out; omega
      subst em
      go_wp2
      first | go_end0 | ((try simp only [Exit.inBlock, Exit.then]); refine bodyPost_ret (results_none rfl _ _ _) rfl ?_)
      exact ⟨rfl, v', X.out, R.out, B.out⟩
    | succ q =>
      have t1 : decide (L < 4) = true := decide_eq_true (by have := HM.out; omega)
      obtain ⟨D, hD⟩ : ∃ D : Int, (a : Int) = D := ⟨_, rfl⟩
      rw [hD] at W
      have HD := Aside0.mk hD
      obtain ⟨lx, hlx⟩ : ∃ l, xs ++ lastB a m = l := ⟨_, rfl⟩
      rw [hlx] at R
      have hlen : lx.length ≤ 1099511627776 + 4 := by
        rw [← hlx]; have := HLX.out; have := HM.out; simp [lastB]; omega
      have HLY := Aside0.mk hlx
      have HLX := Aside0.mk hlen
      have e24 : wrap64 (24 - wrap64 (8 * L)) = 24 - 8 * L := by rw [w64 (x := 8 * L) (by have := HM.out; omega) (by have := HM.out; omega), w64 (by have := HM.out; omega) (by have := HM.out; omega)]
      obtain ⟨DD, hDD⟩ : ∃ DD : Int, D / 2 ^ (wrap64 (24 - wrap64 (8 * L))).toNat = DD := ⟨_, rfl⟩
      have hsh : Op.shift BinOp.shr IntKind.u64 D IntKind.i64 (wrap64 (24 - wrap64 (8 * L))) = pure (.int .u64 DD) := by
        rw [← hDD]
        exact shift_shr .u64 .i64 D _ (by have := HM.out; omega) (by rw [e24]; have := HM.out; simp [IntKind.bits]; omega)
      have NE := Aside0.mk (And.intro (Kd.R_ne R.out X.out (by decide)) (And.intro (Kd.R_ne R.out W.out (by decide)) (blk_ne X.out W.out (by decide))))
      have HBZ := Aside0.mk (Nat.le_trans HB.out (Nat.le_of_lt (blk_lt X.out)))
      have EV := Aside0.mk (show IntKind.u8.wrap DD = ((a / 2 ^ (24 - 8 * m) % 256 : Nat) : Int) by
        have e1 : (24 - 8 * L).toNat = 24 - 8 * m := by have := HM.out; omega
        rw [← hDD, e24, e1, ← HD.out, IntKind.wrap_u8]
        simp)
      have hc4 := (blk_cell X.out 0).trans (rfl : _ = some v')
      have hc5 := W.out.cell0
      clear hlx hlen hD e24 hDD
      go_wp2
      refine start_ (n := 11) (S := fun w' => w'.cell? ⟨g4, 0, none⟩ = some v' ∧ w'.cell? ⟨g5, 0, none⟩ = some (.int .u64 D)) (ds := [10]) #[false, false, false, false, false, false, false, false, false, false, false] (by kernel_rfl) rfl rfl ⟨hc4, hc5⟩ (fun hHeld => ?_)
      refine pure_ (i := 1) (N := some 7) (v := ?_) (a' := ?_) #[false, true, false, false, false, false, false, false, false, false, false] rfl rfl (by kernel_rfl) (fun _ _ _ h => h) (Or.inl ⟨by rfl, ?_⟩) ?_ ?_
      rotate_left
      · intro w'
        go_simp
        with_reducible rfl
      rotate_left
      · simp only [Act.put, List.setIfInBounds_toArray, List.set_cons_zero, List.set_cons_succ, i64_w, i32_w]
        rfl
      refine pure_ (i := 3) (N := some 9) (v := ?_) (a' := ?_) #[false, true, false, true, false, false, false, false, false, false, false] rfl rfl (by kernel_rfl) (fun _ _ _ h => h) (Or.inl ⟨by rfl, ?_⟩) ?_ ?_
      rotate_left
      · intro w'
        go_simp
        with_reducible rfl
      rotate_left
      · simp only [Act.put, List.setIfInBounds_toArray, List.set_cons_zero, List.set_cons_succ, i64_w, i32_w]
        rfl
      refine pure_ (i := 4) (N := some 10) (v := ?_) (a' := ?_) #[false, true, false, true, true, false, false, false, false, false, false] rfl rfl (by kernel_rfl) (fun _ _ _ h => h) (Or.inl ⟨by rfl, ?_⟩) ?_ ?_
      rotate_left
      · intro w'
        go_simp
        with_reducible rfl
      rotate_left
      · simp only [Act.put, List.setIfInBounds_toArray, List.set_cons_zero, List.set_cons_succ, i64_w, i32_w]
        rfl
      refine pure_ (i := 5) (N := some 11) (v := ?_) (a' := ?_) #[false, true, false, true, true, true, false, false, false, false, false] rfl rfl (by kernel_rfl) (fun _ _ _ h => h) (Or.inl ⟨by rfl, ?_⟩) ?_ ?_
      rotate_left
      · intro w'
        go_simp
        with_reducible rfl
      rotate_left
      · simp only [Act.put, List.setIfInBounds_toArray, List.set_cons_zero, List.set_cons_succ, i64_w, i32_w]
        rfl
      refine take_ (i := 0) (N := some 6) (v := ?_) (a' := ?_) #[true, true, false, true, true, true, false, false, false, false, false] rfl rfl (by kernel_rfl) (fun _ _ _ h => h) (Or.inl ⟨by rfl, ?_⟩) hHeld ?_ ?_
      rotate_left
      · rintro w' ⟨s0, s1⟩
        go_simp
        with_reducible rfl
      rotate_left
      · simp only [Act.put, List.setIfInBounds_toArray, List.set_cons_zero, List.set_cons_succ, i64_w, i32_w]
        rfl
      refine take_ (i := 2) (N := some 8) (v := ?_) (a' := ?_) #[true, true, true, true, true, true, false, false, false, false, false] rfl rfl (by kernel_rfl) (fun _ _ _ h => h) (Or.inl ⟨by rfl, ?_⟩) hHeld ?_ ?_
      rotate_left
      · rintro w' ⟨s0, s1⟩
        go_simp
        with_reducible rfl
      rotate_left
      · simp only [Act.put, List.setIfInBounds_toArray, List.set_cons_zero, List.set_cons_succ, i64_w, i32_w]
        rfl
      refine pure_ (i := 6) (N := some 12) (v := ?_) (a' := ?_) #[true, true, true, true, true, true, true, false, false, false, false] rfl rfl (by kernel_rfl) (fun _ _ _ h => h) (Or.inl ⟨by rfl, ?_⟩) ?_ ?_
      rotate_left
      · intro w'
        go_simp
        with_reducible rfl
      rotate_left
      · simp only [Act.put, List.setIfInBounds_toArray, List.set_cons_zero, List.set_cons_succ, i64_w, i32_w]
        rfl
      refine pure_ (i := 7) (N := some 13) (v := ?_) (a' := ?_) #[true, true, true, true, true, true, true, true, false, false, false] rfl rfl (by kernel_rfl) (fun _ _ _ h => h) (Or.inl ⟨by rfl, ?_⟩) ?_ ?_
      rotate_left
      · intro w'
        go_simp
        with_reducible rfl
      rotate_left
      · simp only [Act.put, List.setIfInBounds_toArray, List.set_cons_zero, List.set_cons_succ, i64_w, i32_w]
        rfl
      refine one_ (i := 8) (N := some 14) #[true, true, true, true, true, true, true, true, true, false, false] rfl rfl (by kernel_rfl) (by decide) (fun K hK => ?_)
      refine value_ (w1 := ?_) (v := ?_) (by rfl) rfl ?_ ?_
      rotate_left 2
      · go_simp
        constructor
        · rfl
        · rfl
      have X4 := Aside0.mk (blk_alloc X.out (.cells #[.int .u8 (IntKind.u8.wrap DD)] 5))
      have D4 := Aside0.mk (Sp.below W.out (below_alloc (Below.refl _ _) (.cells #[.int .u8 (IntKind.u8.wrap DD)] 5)))
      refine hK.out _ _ ⟨((blk_cell X4.out 0).trans rfl), D4.out.cell0⟩ (fun hHeld => ?_)
      clear hK K
      refine norm_ (a' := ?_) ?_ ?_
      rotate_left
      · show Act.put _ (some 14) _ = _
        simp only [Act.put, List.setIfInBounds_toArray, List.set_cons_zero, List.set_cons_succ, i64_w, i32_w]
        rfl
      refine one_ (i := 9) (N := some 15) #[true, true, true, true, true, true, true, true, true, true, false] rfl rfl (by kernel_rfl) (by decide) (fun K hK => ?_)
      refine Kd.R_append_step (Kd.int .u8) (w0 := wr.drew) (W := wr.drew) base (by rfl) (.tmp 6) (.tmp 14) 52 5 (.int .u8 0) 1 rfl Try.underlying52 info5 rfl (by decide) (by omega) v' lx (IntKind.u8.wrap DD) [.int .u8 (IntKind.u8.wrap DD)] (fun _ => True) (fun _ => False) rfl rfl rfl (fun _ hk => hk.elim) (fun _ _ => trivial) (Kd.R_drew R.out) (Below.refl _ _) HBZ.out (by have := HLX.out; omega) ?_
      intro v2 w5 ho5 hb5 hg5_ ha5
      obtain ⟨lv, hlv⟩ : ∃ l, lx ++ [(IntKind.u8.wrap DD)] = l := ⟨_, rfl⟩
      rw [hlv] at ho5
      have LV := Aside0.mk hlv
      clear hlv
      obtain ⟨A2, c2, e2⟩ := Kd.R_slice ho5
      subst e2
      have hg5 : wr.grownBy w5 v'.ownBlock := ⟨hg5_.os, hg5_.tape, hg5_.output, hg5_.size, hg5_.block⟩
      have X5 := Aside0.mk (blk_grown X.out hg5 NE.out.1)
      have D5 := Aside0.mk (W.out.grown hg5 NE.out.2.1)
      have O5 := Aside0.mk ho5
      have K5 := Aside0.mk (And.intro hg5 ha5)
      clear ho5 hb5 hg5 hg5_ ha5
      refine hK.out _ _ ⟨((blk_cell X5.out 0).trans rfl), D5.out.cell0⟩ (fun hHeld => ?_)
      clear hK K
      refine norm_ (a' := ?_) ?_ ?_
      rotate_left
      · show Act.put _ (some 15) _ = _
        simp only [Act.put, List.setIfInBounds_toArray, List.set_cons_zero, List.set_cons_succ, i64_w, i32_w]
        rfl
      refine last_ (i := 10) (N := none) #[true, true, true, true, true, true, true, true, true, true, true] rfl rfl (by kernel_rfl) (by decide) (fun K hK => ?_)
      have hfz := blk_frozen X5.out 0
      refine skip_ (w1 := ?_) (by rfl) rfl ?_ ?_
      rotate_left
      · go_simp
        rfl
      refine hK.out _ _ ?_
      clear hK K
      refine done_ (by kernel_rfl) ?_
      clear hc4 hc5 hHeld hfz
      obtain ⟨sv, hsv⟩ : ∃ sv, Value.slice A2 lv.length c2 = sv := ⟨_, rfl⟩
      rw [hsv] at O5 K5
      rw [hsv]
      clear hsv
      have X6 := Aside0.mk (show Ov (w5.setCell ⟨g4, 0, none⟩ sv) g4 sv from blk_set X5.out 0 sv)
      have R6 := Aside0.mk (Kd.R_set O5.out X5.out (by decide) 0 sv)
      have W6 := Aside0.mk (show Sp (w5.setCell ⟨g4, 0, none⟩ sv) g5 59 [] D b from blk_far (p := ⟨g4, 0, none⟩) D5.out NE.out.2.2.symm sv)
      have B6 := Aside0.mk (show Below base w (w5.setCell ⟨g4, 0, none⟩ sv) from (below_row B.out K5.out.1 (fun k hk => Kd.R_base R.out k hk) HBZ.out).setCell HB.out sv)
      obtain ⟨w6, hw6⟩ : ∃ w6, w5.setCell ⟨g4, 0, none⟩ sv = w6 := ⟨_, rfl⟩
      rw [hw6] at X6 R6 W6 B6
      rw [hw6]
      clear hw6 D5 X5 O5 K5
      go_wp2
      go_roundg q
      case measure => omega
      case rel =>
        refine ⟨wrap64 (L + 1), m + 1, sv, rfl, ⟨?_, by have := HM.out; omega⟩, X6, ⟨?_⟩, ⟨?_⟩, B6⟩
        · have := HM.out; rw [w64 (by omega) (by omega)]; omega
        · rw [← lastB_step, ← List.append_assoc, HLY.out, ← EV.out, LV.out]
          exact R6.out
        · rw [HD.out]; exact W6.out
end Go.Proofs.Ytfijcedckpkpfaa.Hd
