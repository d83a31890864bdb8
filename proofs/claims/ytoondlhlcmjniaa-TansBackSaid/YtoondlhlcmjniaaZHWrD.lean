/- bitw.Writer (New, Put, Bytes), walked by hand, its numbers by name; then by its bits. -/
import Derived.Test.YtoondlhlcmjniaaZPx0
import Derived.Test.YtoondlhlcmjniaaZHw
import Derived.Test.YtoondlhlcmjniaaZBts
import Derived.Test.YtoondlhlcmjniaaZBtPutD
import Derived.StillTailTactics
import Derived.Deep.RegionHeld3
set_option linter.unusedVariables false
set_option linter.unusedSimpArgs false
set_option linter.unusedSectionVars false
namespace Go.Proofs.Ytoondlhlcmjniaa.Hd
open Go.RowKit Go.Proofs.YtoondlhlcmjniaaW.PrintWords Go.Proofs.YtoondlhlcmjniaaW.PrintLast Go.Proofs.YtoondlhlcmjniaaW.PrintMore Go.Proofs.Ytoondlhlcmjniaa.Hw Go.Proofs.Ytoondlhlcmjniaa.Com Go.Proofs.Ytoondlhlcmjniaa.P
attribute [local go_sem] max2_int min2_int max_two min_two max_three min_three max_four min_four

/-- A writer at block g: its row (v), and the bits behind it. -/
def Wr (W : World) (base g : Nat) (v : Value) (xs : List Int) (word n : Int) : Prop :=
  W.heap[g]? = some (.cells #[v, .int .u64 word, .int .i64 n] 93 (0, 0)) ∧ Kd.R (Kd.int .u8) 5 W base (fun _ => True) v xs
/-- What a writer's call leaves as it was. -/
def Fr (w w' : World) (g : Nat) (v : Value) : Prop :=
  w'.os = w.os ∧ w'.tape = w.tape ∧ w'.output = w.output ∧ w.heap.size ≤ w'.heap.size ∧ ∀ i, i < w.heap.size → i ≠ g → some i ≠ v.ownBlock → w'.heap[i]? = w.heap[i]?
/-- The row is the elder one, or new. -/
def Nw (w : World) (v v' : Value) : Prop := v'.ownBlock = v.ownBlock ∨ ∃ b, v'.ownBlock = some b ∧ w.heap.size ≤ b
/-- So many bytes of a number. -/
def tb (c T : Nat) : List Nat := (List.range c).map (fun i => T / 2 ^ (8 * i) % 256)
def zi (B : List Nat) : List Int := B.map (fun n : Nat => (n : Int))

set_option maxHeartbeats 4000000 in
set_option maxRecDepth 100000 in
theorem Put_ok (g : Nat) (v : Value) (xs : List Int) (wo n : Nat) (x k : Nat) (base : Nat) (w : World) (hI : Wr w base g v xs wo n) (hb : base ≤ g) (hn : n < 8) (hk : k ≤ 56) (hx : x < 2 ^ k) (hwo : wo < 2 ^ n) (hxs : xs.length ≤ 1099511627776) :
    Calls Try.prog 38 #[.pointer (some ⟨g, 0, none⟩), .int .u64 x, .int .i64 k] w fun e w' => ∃ v' : Value, e = .returned (.int .i64 0) ∧
      Wr w' base g v' (xs ++ zi (tb ((n + k) / 8) (wo + x * 2 ^ n))) ((((wo + x * 2 ^ n) / 2 ^ (8 * ((n + k) / 8)) : Nat)) : Int) (((n + k) % 8 : Nat) : Int) ∧ Fr w w' g v ∧ Nw w v v' := by
  have hxk : x < 2 ^ 56 := Nat.lt_of_lt_of_le hx (Nat.pow_le_pow_right (by omega) hk)
  have hwo8 : wo < 2 ^ 7 := Nat.lt_of_lt_of_le hwo (Nat.pow_le_pow_right (by omega) (by omega))
  have hp7 : 2 ^ n ≤ 2 ^ 7 := Nat.pow_le_pow_right (by omega) (by omega)
  have hmul : x * 2 ^ n ≤ (2 ^ 56 - 1) * 2 ^ 7 := Nat.mul_le_mul (by omega) hp7
  have t1 : decide ((k : Int) < 0) = false := decide_eq_false (by omega)
  have t2 : decide ((k : Int) > 56) = false := decide_eq_false (by omega)
  have t3 : decide ((56 : Int) < (k : Int)) = false := decide_eq_false (by omega)
  have p1 : (0 ≤ (k : Int)) = True := eq_true (by omega)
  have p2 : (0 ≤ (n : Int)) = True := eq_true (by omega)
  have sh : ((x : Int) / 2 ^ min k 64 != 0) = false := by
    have e1 : min k 64 = k := by omega
    have e2 : ((x : Int) / 2 ^ k) = ((x / 2 ^ k : Nat) : Int) := by simp
    rw [e1, e2, Nat.div_eq_of_lt hx]; rfl
  obtain ⟨T, hT⟩ : ∃ T, wo + x * 2 ^ n = T := ⟨_, rfl⟩
  have ex : IntKind.u64.wrap ((x : Int) * 2 ^ min n 64) = ((x * 2 ^ n : Nat) : Int) := by
    have e1 : min n 64 = n := by omega
    have e2 : ((x : Int) * 2 ^ n) = ((x * 2 ^ n : Nat) : Int) := by simp
    rw [e1, e2, wu64 (by omega) (by omega)]
  have ev : Go.bits .or .u64 (wo : Int) (IntKind.u64.wrap ((x : Int) * 2 ^ min n 64)) = (T : Int) := by
    rw [ex, or_nat _ _ n hwo (Nat.mul_mod_left _ _) (by omega) (by omega), hT]
  have en : wrap64 ((n : Int) + (k : Int)) = ((n + k : Nat) : Int) := by rw [w64 (by omega) (by omega)]; omega
  have hT64 : T < 2 ^ 64 := by omega
  have HX := Aside0.mk (And.intro hn (And.intro hk (And.intro hxs (And.intro hT64 hb))))
  have HI := Aside0.mk hI
  rw [hT]
  have HE := Aside0.mk (And.intro ev en)
  clear hn hk hx hwo hxs hxk hwo8 hI hb hp7 hmul ex hT hT64 ev en
  go_enter Try.func38, Try.ntmps38
  go_wp2_with (first
    | ((with_reducible refine gate_dst (N := 3) rfl ?_); refine box_event ?hg (N := 3) ?hd (cs := #[.pointer (some ⟨g, 0, none⟩)]) (t := 77) ?hr ?_; (case hd => rfl); (case hg => rfl); (case hr => first | (go_simp; done) | (go_simp; rfl)); intro b1 hb1 w1 hx1 hB1; have X1 := Aside0.mk hx1; have hc1 := (blk_cell hx1 0).trans (rfl : _ = some (Value.pointer (some ⟨g, 0, none⟩))); have B1 := Aside0.mk hB1; have G1 := Aside0.mk hb1; have D1 := Aside0.mk (blk_below HI.out.1 hB1); have hg1 := (blk_cell D1.out 1).trans (rfl : _ = some (Value.int .u64 wo)); have hg2 := (blk_cell D1.out 2).trans (rfl : _ = some (Value.int .i64 n)); have hf1 := blk_frozen D1.out 1; have hf2 := blk_frozen D1.out 2; clear hx1 hB1 hb1))
  go_still_tail 11, (by kernel_rfl)
  change wpList _ _ _ _ _ w1.drew
  go_wp2
  rw [HE.out.1, HE.out.2]
  have hRn := Kd.R_ne HI.out.2 HI.out.1 (by decide)
  go_loopg [] ((n + k) / 8) (fun q w' => ∃ (c : Nat) (v' : Value), Aside0 (c + q = (n + k) / 8) ∧ Aside0 (Wr w' base g v' (xs ++ zi (tb c T)) ((T / 2 ^ (8 * c) : Nat) : Int) ((n + k - 8 * c : Nat) : Int)) ∧ Aside0 (Fr w w' g v ∧ Nw w v v') ∧ Aside0 (w'.heap[b1]? = some (.cells #[.pointer (some ⟨g, 0, none⟩)] 77 (0, 0))))
  case atStart =>
    refine ⟨0, v, ⟨by omega⟩, ⟨?_, ?_⟩, ⟨?_, .inl rfl⟩, ⟨?_⟩⟩
    · have e1 : T / 2 ^ (8 * 0) = T := by simp
      rw [e1, Nat.mul_zero, Nat.sub_zero]
      exact blk_set (blk_set D1.out 1 (.int .u64 T)) 2 (.int .i64 ((n + k : Nat) : Int))
    · have e1 : xs ++ zi (tb 0 T) = xs := by simp [zi, tb]
      rw [e1]
      exact Kd.R_set (Kd.R_set (Kd.R_below HI.out.2 B1.out) D1.out (by decide) 1 _) (blk_set D1.out 1 (.int .u64 T)) (by decide) 2 _
    · refine ⟨B1.out.os, B1.out.tape, B1.out.output, ?_, fun i h1 h2 h3 => ?_⟩
      · have := B1.out.size
        simpa using this
      · exact (Below.heap_setCell _ ⟨g, 2, none⟩ _ i h2).trans ((Below.heap_setCell _ ⟨g, 1, none⟩ _ i h2).trans (B1.out.block i h1))
    · have hne : b1 ≠ g := blk_ne X1.out D1.out (by decide)
      exact blk_far (p := ⟨g, 2, none⟩) (blk_far (p := ⟨g, 1, none⟩) X1.out hne _) hne _
  case round =>
    clear hc1 hg1 hg2 hf1 hf2
    obtain ⟨c, v', C, W, F, X⟩ := hrel
    have hc1 := (blk_cell X.out 0).trans (rfl : _ = some (Value.pointer (some ⟨g, 0, none⟩)))
    have hg0 := (blk_cell W.out.1 0).trans (rfl : _ = some v')
    have hg1 := (blk_cell W.out.1 1).trans (rfl : _ = some (Value.int .u64 ((T / 2 ^ (8 * c) : Nat) : Int)))
    have hg2 := (blk_cell W.out.1 2).trans (rfl : _ = some (Value.int .i64 ((n + k - 8 * c : Nat) : Int)))
    have hf0 := blk_frozen W.out.1 0
    have hf1 := blk_frozen W.out.1 1
    have hf2 := blk_frozen W.out.1 2
    cases gk with
    | zero =>
      have hm : c + 0 = (n + k) / 8 := C.out
      have t4 : decide ((((n + k - 8 * c : Nat)) : Int) ≥ 8) = false := decide_eq_false (by omega)
      have t5 : decide ((8 : Int) ≤ (((n + k - 8 * c : Nat)) : Int)) = false := decide_eq_false (by omega)
      generalize hA : (((n + k - 8 * c : Nat)) : Int) = A at t4 t5 hg2
      have HA := Aside0.mk (And.intro hA hm)
      clear hA hm
      go_wp2
      go_ret
      obtain ⟨hA, hm⟩ := HA.out
      have e1 : (n + k) / 8 = c := by omega
      have e2 : (n + k) % 8 = n + k - 8 * c := by omega
      rw [e1, e2]
      exact ⟨v', rfl, W.out, F.out.1, F.out.2⟩
    | succ q =>
      have hm : c + (q + 1) = (n + k) / 8 := C.out
      have t4 : decide ((((n + k - 8 * c : Nat)) : Int) ≥ 8) = true := decide_eq_true (by omega)
      have t5 : decide ((8 : Int) ≤ (((n + k - 8 * c : Nat)) : Int)) = true := decide_eq_true (by omega)
      generalize hA : (((n + k - 8 * c : Nat)) : Int) = A at t4 t5 hg2
      generalize hD : ((T / 2 ^ (8 * c) : Nat) : Int) = D at hg1
      have HA := Aside0.mk (And.intro hA (And.intro hD hm))
      clear hA hD hm
      have ne1 : some b1 ≠ v'.ownBlock := Kd.R_ne W.out.2 X.out (by decide)
      have ne2 : some g ≠ v'.ownBlock := Kd.R_ne W.out.2 W.out.1 (by decide)
      have ne3 : b1 ≠ g := blk_ne X.out W.out.1 (by decide)
      have NE := Aside0.mk (And.intro ne1 (And.intro ne2 ne3))
      obtain ⟨lx, hlx⟩ : ∃ m, (xs ++ zi (tb c T)).length = m := ⟨_, rfl⟩
      have hlx2 : lx ≤ 1099511627876 := by
        have := HX.out
        have h2 := HA.out
        rw [← hlx]; simp [zi, tb]; omega
      have HLX := Aside0.mk (And.intro hlx hlx2)
      have hbz : base ≤ wr.heap.size := Nat.le_trans HX.out.2.2.2.2 (Nat.le_of_lt (blk_lt W.out.1))
      have HBZ := Aside0.mk hbz
      clear ne1 ne2 ne3 hlx hlx2 hbz
      go_wp2
      refine start_ (n := 15) (S := fun w' => w'.cell? ⟨b1, 0, none⟩ = some (.pointer (some ⟨g, 0, none⟩)) ∧ w'.cell? ⟨g, 0, none⟩ = some v' ∧ w'.cell? ⟨g, 1, none⟩ = some (.int .u64 D)) (ds := [14]) #[false, false, false, false, false, false, false, false, false, false, false, false, false, false, false] (by kernel_rfl) rfl rfl ⟨hc1, hg0, hg1⟩ (fun hHeld => ?_)
      refine take_ (i := 0) (N := some 1) (v := ?_) (a' := ?_) #[true, false, false, false, false, false, false, false, false, false, false, false, false, false, false] rfl rfl (by kernel_rfl) (fun _ _ _ h => h) (Or.inl ⟨by rfl, ?_⟩) hHeld ?_ ?_
      rotate_left
      · rintro w' ⟨s0, s1, s2⟩
        go_simp
        with_reducible rfl
      rotate_left
      · simp only [Act.put, List.setIfInBounds_toArray, List.set_cons_zero, List.set_cons_succ, i64_w, i32_w]
        rfl
      refine take_ (i := 1) (N := some 2) (v := ?_) (a' := ?_) #[true, true, false, false, false, false, false, false, false, false, false, false, false, false, false] rfl rfl (by kernel_rfl) (fun _ _ _ h => h) (Or.inl ⟨by rfl, ?_⟩) hHeld ?_ ?_
      rotate_left
      · rintro w' ⟨s0, s1, s2⟩
        go_simp
        with_reducible rfl
      rotate_left
      · simp only [Act.put, List.setIfInBounds_toArray, List.set_cons_zero, List.set_cons_succ, i64_w, i32_w]
        rfl
      refine pure_ (i := 2) (N := some 3) (v := ?_) (a' := ?_) #[true, true, true, false, false, false, false, false, false, false, false, false, false, false, false] rfl rfl (by kernel_rfl) (fun _ _ _ h => h) (Or.inl ⟨by rfl, ?_⟩) ?_ ?_
      rotate_left
      · intro w'
        go_simp
        with_reducible rfl
      rotate_left
      · simp only [Act.put, List.setIfInBounds_toArray, List.set_cons_zero, List.set_cons_succ, i64_w, i32_w]
        rfl
      refine pure_ (i := 3) (N := some 4) (v := ?_) (a' := ?_) #[true, true, true, true, false, false, false, false, false, false, false, false, false, false, false] rfl rfl (by kernel_rfl) (fun _ _ _ h => h) (Or.inl ⟨by rfl, ?_⟩) ?_ ?_
      rotate_left
      · intro w'
        go_simp
        with_reducible rfl
      rotate_left
      · simp only [Act.put, List.setIfInBounds_toArray, List.set_cons_zero, List.set_cons_succ, i64_w, i32_w]
        rfl
      refine take_ (i := 4) (N := some 5) (v := ?_) (a' := ?_) #[true, true, true, true, true, false, false, false, false, false, false, false, false, false, false] rfl rfl (by kernel_rfl) (fun _ _ _ h => h) (Or.inl ⟨by rfl, ?_⟩) hHeld ?_ ?_
      rotate_left
      · rintro w' ⟨s0, s1, s2⟩
        go_simp
        with_reducible rfl
      rotate_left
      · simp only [Act.put, List.setIfInBounds_toArray, List.set_cons_zero, List.set_cons_succ, i64_w, i32_w]
        rfl
      refine take_ (i := 5) (N := some 6) (v := ?_) (a' := ?_) #[true, true, true, true, true, true, false, false, false, false, false, false, false, false, false] rfl rfl (by kernel_rfl) (fun _ _ _ h => h) (Or.inl ⟨by rfl, ?_⟩) hHeld ?_ ?_
      rotate_left
      · rintro w' ⟨s0, s1, s2⟩
        go_simp
        with_reducible rfl
      rotate_left
      · simp only [Act.put, List.setIfInBounds_toArray, List.set_cons_zero, List.set_cons_succ, i64_w, i32_w]
        rfl
      refine pure_ (i := 6) (N := some 7) (v := ?_) (a' := ?_) #[true, true, true, true, true, true, true, false, false, false, false, false, false, false, false] rfl rfl (by kernel_rfl) (fun _ _ _ h => h) (Or.inl ⟨by rfl, ?_⟩) ?_ ?_
      rotate_left
      · intro w'
        go_simp
        with_reducible rfl
      rotate_left
      · simp only [Act.put, List.setIfInBounds_toArray, List.set_cons_zero, List.set_cons_succ, i64_w, i32_w]
        rfl
      refine pure_ (i := 7) (N := some 8) (v := ?_) (a' := ?_) #[true, true, true, true, true, true, true, true, false, false, false, false, false, false, false] rfl rfl (by kernel_rfl) (fun _ _ _ h => h) (Or.inl ⟨by rfl, ?_⟩) ?_ ?_
      rotate_left
      · intro w'
        go_simp
        with_reducible rfl
      rotate_left
      · simp only [Act.put, List.setIfInBounds_toArray, List.set_cons_zero, List.set_cons_succ, i64_w, i32_w]
        rfl
      refine take_ (i := 8) (N := some 9) (v := ?_) (a' := ?_) #[true, true, true, true, true, true, true, true, true, false, false, false, false, false, false] rfl rfl (by kernel_rfl) (fun _ _ _ h => h) (Or.inl ⟨by rfl, ?_⟩) hHeld ?_ ?_
      rotate_left
      · rintro w' ⟨s0, s1, s2⟩
        go_simp
        with_reducible rfl
      rotate_left
      · simp only [Act.put, List.setIfInBounds_toArray, List.set_cons_zero, List.set_cons_succ, i64_w, i32_w]
        rfl
      refine pure_ (i := 9) (N := some 10) (v := ?_) (a' := ?_) #[true, true, true, true, true, true, true, true, true, true, false, false, false, false, false] rfl rfl (by kernel_rfl) (fun _ _ _ h => h) (Or.inl ⟨by rfl, ?_⟩) ?_ ?_
      rotate_left
      · intro w'
        go_simp
        with_reducible rfl
      rotate_left
      · simp only [Act.put, List.setIfInBounds_toArray, List.set_cons_zero, List.set_cons_succ, i64_w, i32_w]
        rfl
      refine one_ (i := 10) (N := some 11) #[true, true, true, true, true, true, true, true, true, true, true, false, false, false, false] rfl rfl (by kernel_rfl) (by decide) (fun K hK => ?_)
      refine value_ (w1 := ?_) (v := ?_) (by rfl) rfl ?_ ?_
      rotate_left 2
      · go_simp
        constructor
        · rfl
        · rfl
      have X4 := Aside0.mk (blk_alloc X.out (.cells #[.int .u8 (IntKind.u8.wrap D)] 5))
      have D4 := Aside0.mk (blk_alloc W.out.1 (.cells #[.int .u8 (IntKind.u8.wrap D)] 5))
      refine hK.out _ _ ⟨((blk_cell X4.out 0).trans rfl), ((blk_cell D4.out 0).trans rfl), ((blk_cell D4.out 1).trans (by rw [← HA.out.2.1]; rfl))⟩ (fun hHeld => ?_)
      clear hK K
      refine norm_ (a' := ?_) ?_ ?_
      rotate_left
      · show Act.put _ (some 11) _ = _
        simp only [Act.put, List.setIfInBounds_toArray, List.set_cons_zero, List.set_cons_succ, i64_w, i32_w]
        rfl
      refine one_ (i := 11) (N := some 12) #[true, true, true, true, true, true, true, true, true, true, true, true, false, false, false] rfl rfl (by kernel_rfl) (by decide) (fun K hK => ?_)
      refine Kd.R_append_step (Kd.int .u8) (w0 := wr.drew) (W := wr.drew) base (by rfl) (.tmp 5) (.tmp 11) 84 5 (.int .u8 0) 1 rfl Try.underlying84 info5 rfl (by decide) (by omega) v' (xs ++ zi (tb c T)) (IntKind.u8.wrap D) [.int .u8 (IntKind.u8.wrap D)] (fun _ => True) (fun _ => False) rfl rfl rfl (fun _ hk => hk.elim) (fun _ _ => trivial) (Kd.R_drew W.out.2) (Below.refl _ _) HBZ.out (by have := HLX.out; omega) ?_
      intro v2 w5 ho5 hb5 hg5_ ha5
      obtain ⟨lv, hlv⟩ : ∃ l, xs ++ zi (tb c T) ++ [IntKind.u8.wrap D] = l := ⟨_, rfl⟩
      rw [hlv] at ho5
      have LV := Aside0.mk hlv
      clear hlv
      obtain ⟨A2, c2, e2⟩ := Kd.R_slice ho5
      subst e2
      have hg5 : wr.grownBy w5 v'.ownBlock := ⟨hg5_.os, hg5_.tape, hg5_.output, hg5_.size, hg5_.block⟩
      have X5 := Aside0.mk (blk_grown X.out hg5 NE.out.1)
      have D5 := Aside0.mk (blk_grown W.out.1 hg5 NE.out.2.1)
      have O5 := Aside0.mk ho5
      have K5 := Aside0.mk (And.intro hg5 ha5)
      clear ho5 hb5 hg5 hg5_ ha5
      refine hK.out _ _ ⟨((blk_cell X5.out 0).trans rfl), ((blk_cell D5.out 0).trans rfl), ((blk_cell D5.out 1).trans (by rw [← HA.out.2.1]; rfl))⟩ (fun hHeld => ?_)
      clear hK K
      refine norm_ (a' := ?_) ?_ ?_
      rotate_left
      · show Act.put _ (some 12) _ = _
        simp only [Act.put, List.setIfInBounds_toArray, List.set_cons_zero, List.set_cons_succ, i64_w, i32_w]
        rfl
      refine pure_ (i := 12) (N := some 13) (v := ?_) (a' := ?_) #[true, true, true, true, true, true, true, true, true, true, true, true, true, false, false] rfl rfl (by kernel_rfl) (fun _ _ _ h => h) (Or.inl ⟨by rfl, ?_⟩) ?_ ?_
      rotate_left
      · intro w'
        go_simp
        with_reducible rfl
      rotate_left
      · simp only [Act.put, List.setIfInBounds_toArray, List.set_cons_zero, List.set_cons_succ, i64_w, i32_w]
        rfl
      refine pure_ (i := 13) (N := some 14) (v := ?_) (a' := ?_) #[true, true, true, true, true, true, true, true, true, true, true, true, true, true, false] rfl rfl (by kernel_rfl) (fun _ _ _ h => h) (Or.inl ⟨by rfl, ?_⟩) ?_ ?_
      rotate_left
      · intro w'
        go_simp
        with_reducible rfl
      rotate_left
      · simp only [Act.put, List.setIfInBounds_toArray, List.set_cons_zero, List.set_cons_succ, i64_w, i32_w]
        rfl
      refine last_ (i := 14) (N := none) #[true, true, true, true, true, true, true, true, true, true, true, true, true, true, true] rfl rfl (by kernel_rfl) (by decide) (fun K hK => ?_)
      have hfz := blk_frozen D5.out 0
      refine skip_ (w1 := ?_) (by rfl) rfl ?_ ?_
      rotate_left
      · go_simp
        rfl
      refine hK.out _ _ ?_
      clear hK K
      refine done_ (by kernel_rfl) ?_
      clear hc1 hg0 hg1 hg2 hHeld hf0 hf1 hf2
      obtain ⟨sv, hsv⟩ : ∃ sv, Value.slice A2 lv.length c2 = sv := ⟨_, rfl⟩
      rw [hsv] at O5 K5
      rw [hsv]
      clear hsv
      have D6 := Aside0.mk (show (w5.setCell ⟨g, 0, none⟩ sv).heap[g]? = some (.cells #[sv, .int .u64 D, .int .i64 A] 93 (0, 0)) from by rw [← HA.out.1, ← HA.out.2.1]; exact blk_set D5.out 0 sv)
      have X6 := Aside0.mk (blk_far (p := ⟨g, 0, none⟩) X5.out NE.out.2.2 sv)
      have R6 := Aside0.mk (Kd.R_set O5.out D5.out (by decide) 0 sv)
      have F6 := Aside0.mk (show wr.heap.size ≤ (w5.setCell ⟨g, 0, none⟩ sv).heap.size ∧ (w5.setCell ⟨g, 0, none⟩ sv).os = wr.os ∧ (w5.setCell ⟨g, 0, none⟩ sv).tape = wr.tape ∧ (w5.setCell ⟨g, 0, none⟩ sv).output = wr.output ∧ ∀ i, i < wr.heap.size → i ≠ g → some i ≠ v'.ownBlock → (w5.setCell ⟨g, 0, none⟩ sv).heap[i]? = wr.heap[i]? from
        ⟨by simpa using K5.out.1.size, K5.out.1.os, K5.out.1.tape, K5.out.1.output, fun i h1 h2 h3 => (Below.heap_setCell w5 ⟨g, 0, none⟩ sv i h2).trans (K5.out.1.block i h1 h3)⟩)
      have N6 := Aside0.mk K5.out.2
      obtain ⟨w6, hw6⟩ : ∃ w6, w5.setCell ⟨g, 0, none⟩ sv = w6 := ⟨_, rfl⟩
      rw [hw6] at D6 X6 R6 F6
      rw [hw6]
      clear hw6 D5 X5 O5 K5
      have hc1 := (blk_cell X6.out 0).trans (rfl : _ = some (Value.pointer (some ⟨g, 0, none⟩)))
      have hg1 := (blk_cell D6.out 1).trans (rfl : _ = some (Value.int .u64 D))
      have hg2 := (blk_cell D6.out 2).trans (rfl : _ = some (Value.int .i64 A))
      have hf1 := blk_frozen D6.out 1
      have hf2 := blk_frozen D6.out 2
      go_wp2
      go_end0
      go_wp2
      go_roundg q
      case measure => omega
      case rel =>
        obtain ⟨hA, hD, hm⟩ := HA.out
        have hx := HX.out
        obtain ⟨F1, N1⟩ := F.out
        have hD2 : D / 256 = ((T / 2 ^ (8 * (c + 1)) : Nat) : Int) := by
          rw [← hD]
          have e1 : T / 2 ^ (8 * (c + 1)) = T / 2 ^ (8 * c) / 256 := by
            rw [Nat.div_div_eq_div_mul]
            congr 1
            rw [Nat.mul_add, Nat.pow_add]
          rw [e1]
          generalize T / 2 ^ (8 * c) = y
          omega
        have hA2 : wrap64 (A - 8) = ((n + k - 8 * (c + 1) : Nat) : Int) := by
          rw [← hA, w64 (by omega) (by omega)]; omega
        have hL : lv = xs ++ zi (tb (c + 1) T) := by
          rw [← LV.out, ← hD]
          have e1 : tb (c + 1) T = tb c T ++ [T / 2 ^ (8 * c) % 256] := by simp [tb, List.range_succ]
          have e2 : IntKind.u8.wrap ((T / 2 ^ (8 * c) : Nat) : Int) = ((T / 2 ^ (8 * c) % 256 : Nat) : Int) := by
            rw [IntKind.wrap_u8]
            generalize T / 2 ^ (8 * c) = y
            omega
          rw [e1, e2]
          simp [zi]
        have D7 := blk_set D6.out 1 (.int .u64 (D / 256))
        have D8 := blk_set D7 2 (.int .i64 (wrap64 (A - 8)))
        refine ⟨c + 1, sv, ⟨by omega⟩, ⟨?_, ?_⟩, ⟨?_, ?_⟩, ⟨?_⟩⟩
        · rw [← hD2, ← hA2]
          exact D8
        · rw [← hL]
          exact Kd.R_set (Kd.R_set R6.out D6.out (by decide) 1 _) D7 (by decide) 2 _
        · obtain ⟨f1, f2, f3, f4, f5⟩ := F1
          obtain ⟨g1, g2, g3, g4, g5⟩ := F6.out
          refine ⟨g2.trans f1, g3.trans f2, g4.trans f3, ?_, fun i h1 h2 h3 => ?_⟩
          · simp only [World.size_setCell]; omega
          · have hne : some i ≠ v'.ownBlock := by
              rcases N1 with h | ⟨b, h, hb⟩
              · rw [h]; exact h3
              · rw [h]; intro e; have := Option.some.inj e; omega
            refine (Below.heap_setCell _ ⟨g, 2, none⟩ _ i h2).trans ((Below.heap_setCell _ ⟨g, 1, none⟩ _ i h2).trans ((g5 i (by omega) h2 hne).trans (f5 i h1 h2 h3)))
        · have f4 := F1.2.2.2.1
          rcases N6.out with h | ⟨b, h, hb⟩
          · rcases N1 with h1 | ⟨b, h1, hb⟩
            · exact .inl (h.trans h1)
            · exact .inr ⟨b, h.trans h1, hb⟩
          · exact .inr ⟨b, h, Nat.le_trans f4 hb⟩
        · exact blk_far (p := ⟨g, 2, none⟩) (blk_far (p := ⟨g, 1, none⟩) X6.out NE.out.2.2 _) NE.out.2.2 _
set_option maxHeartbeats 4000000 in
set_option maxRecDepth 100000 in
theorem Put_bad (g : Nat) (x k : Int) (w : World) (h : ¬ (0 ≤ k ∧ k ≤ 56 ∧ x / 2 ^ k.toNat = 0)) :
    Calls Try.prog 38 #[.pointer (some ⟨g, 0, none⟩), .int .u64 x, .int .i64 k] w fun e w' => e = .returned (.int .i64 2) ∧ Below w.heap.size w w' := by
  by_cases h1 : k < 0
  · have t1 : decide (k < 0) = true := decide_eq_true h1
    clear h h1
    go_enter Try.func38, Try.ntmps38
    go_wp2_with ((with_reducible refine gate_dst (N := 3) rfl ?_); refine box_event ?hg (N := 3) ?hd (cs := #[.pointer (some ⟨g, 0, none⟩)]) (t := 77) ?hr ?_; (case hd => rfl); (case hg => rfl); (case hr => first | (go_simp; done) | (go_simp; rfl)); intro b1 hb1 w1 hx1 hB1; have hc1 := (blk_cell hx1 0).trans (rfl : _ = some (Value.pointer (some ⟨g, 0, none⟩))); have B1 := Aside0.mk hB1; clear hx1 hB1 hb1)
    go_ret
    exact ⟨rfl, B1.out⟩
  · have t1 : decide (k < 0) = false := decide_eq_false h1
    by_cases h2 : 56 < k
    · have t2 : decide (k > 56) = true := decide_eq_true h2
      have t3 : decide (56 < k) = true := decide_eq_true h2
      clear h h1 h2
      go_enter Try.func38, Try.ntmps38
      go_wp2_with ((with_reducible refine gate_dst (N := 3) rfl ?_); refine box_event ?hg (N := 3) ?hd (cs := #[.pointer (some ⟨g, 0, none⟩)]) (t := 77) ?hr ?_; (case hd => rfl); (case hg => rfl); (case hr => first | (go_simp; done) | (go_simp; rfl)); intro b1 hb1 w1 hx1 hB1; have hc1 := (blk_cell hx1 0).trans (rfl : _ = some (Value.pointer (some ⟨g, 0, none⟩))); have B1 := Aside0.mk hB1; clear hx1 hB1 hb1)
      go_ret
      exact ⟨rfl, B1.out⟩
    · have t2 : decide (k > 56) = false := decide_eq_false h2
      have t3 : decide (56 < k) = false := decide_eq_false h2
      have p1 : (0 ≤ k) = True := eq_true (by omega)
      have sh : (x / 2 ^ min k.toNat 64 != 0) = true := by
        have e1 : min k.toNat 64 = k.toNat := by omega
        rw [e1]
        exact bne_iff_ne.2 (fun e => h ⟨by omega, by omega, e⟩)
      clear h h1 h2
      go_enter Try.func38, Try.ntmps38
      go_wp2_with ((with_reducible refine gate_dst (N := 3) rfl ?_); refine box_event ?hg (N := 3) ?hd (cs := #[.pointer (some ⟨g, 0, none⟩)]) (t := 77) ?hr ?_; (case hd => rfl); (case hg => rfl); (case hr => first | (go_simp; done) | (go_simp; rfl)); intro b1 hb1 w1 hx1 hB1; have hc1 := (blk_cell hx1 0).trans (rfl : _ = some (Value.pointer (some ⟨g, 0, none⟩))); have B1 := Aside0.mk hB1; clear hx1 hB1 hb1)
      go_ret
      exact ⟨rfl, B1.out⟩

theorem conv_run {P : Program} {o : Oper} {a : Act} {W : World} {src dst : TypeId} {x : Operand} {v s : Value} (ho : o.op = .convert src dst x) (hx : a.eval x = v) (h : (convert src dst v).run P W = .ok s W) : (execOp a.eval o).run P W = .ok (.value s) W := by simp [execOp, ho, hx, h]
theorem one_C (W : World) (x : Int) : Kd.C (Kd.int .u8) (W.alloc (.cells #[.int .u8 x] 5)) (some ⟨W.heap.size, 0, none⟩) 1 [x] := by
  have h := Blk.new W .u8 5 [x]
  exact (Kd.R_reads' (Blk.R h (base := 0) (Nat.zero_le _) (by simp [maxLen]) (fun _ => True) trivial)).2.2
set_option maxHeartbeats 4000000 in
set_option maxRecDepth 100000 in
theorem Bytes_ok (g : Nat) (v : Value) (xs : List Int) (wo n : Int) (base : Nat) (w : World) (hI : Wr w base g v xs wo n) (hx : xs.length ≤ 1099511627776) :
    Calls Try.prog 40 #[.pointer (some ⟨g, 0, none⟩)] w fun e w' => e = .returned (.string (if n = 0 then strOfNums xs else strOfNums xs ++ strOfNums [IntKind.u8.wrap wo])) ∧ Below w.heap.size w w' := by
  obtain ⟨h1, h2⟩ := hI
  obtain ⟨A0, c0, rfl⟩ := Kd.R_slice h2
  have hC := (Kd.R_reads' h2).2.2
  have HC := Aside0.mk (show Kd.C (Kd.int .u8) w A0 xs.length xs from hC)
  have W1 := Aside0.mk h1
  have hg0 := (blk_cell h1 0).trans (rfl : _ = some (Value.slice A0 xs.length c0))
  have hg1 := (blk_cell h1 1).trans (rfl : _ = some (Value.int .u64 wo))
  have hg2 := (blk_cell h1 2).trans (rfl : _ = some (Value.int .i64 n))
  have hs := Kd.C_string (P := Try.prog) (c := c0) Try.underlying84 Try.underlying5 Try.underlying9 HC.out
  have hsz : (9223372036854775807 < (strOfNums xs).size + (strOfNums [IntKind.u8.wrap wo]).size) = False := eq_false (by
    have e : ∀ l : List Int, (strOfNums l).size = l.length := fun l => by simp [strOfNums, ByteArray.size]
    rw [e, e, List.length_singleton]; omega)
  clear h1 h2 hC hx
  by_cases hn : n = 0
  · have t1 : (n == 0) = true := beq_iff_eq.2 hn
    rw [if_pos hn]
    go_enter Try.func40, Try.ntmps40
    go_wp2
    go_ret
    exact ⟨rfl, Below.refl _ _⟩
  · have t1 : (n == 0) = false := beq_false_of_ne hn
    rw [if_neg hn]
    go_enter Try.func40, Try.ntmps40
    go_wp2
    refine start_ (n := 14) (S := fun w' => w'.cell? ⟨g, 0, none⟩ = some (.slice A0 xs.length c0) ∧ w'.cell? ⟨g, 1, none⟩ = some (.int .u64 wo) ∧ Kd.C (Kd.int .u8) w' A0 xs.length xs) (ds := []) #[false, false, false, false, false, false, false, false, false, false, false, false, false, false] (by kernel_rfl) rfl rfl ⟨hg0, hg1, (Kd.C_drew HC.out)⟩ (fun hHeld => ?_)
    refine pure_ (i := 0) (N := some 15) (v := ?_) (a' := ?_) #[true, false, false, false, false, false, false, false, false, false, false, false, false, false] rfl rfl (by kernel_rfl) (fun _ _ _ h => h) (Or.inl ⟨by rfl, ?_⟩) ?_ ?_
    rotate_left
    · intro w'
      go_simp
      with_reducible rfl
    rotate_left
    · simp only [Act.put, List.setIfInBounds_toArray, List.set_cons_zero, List.set_cons_succ, i64_w, i32_w]
      rfl
    refine pure_ (i := 1) (N := some 16) (v := ?_) (a' := ?_) #[true, true, false, false, false, false, false, false, false, false, false, false, false, false] rfl rfl (by kernel_rfl) (fun _ _ _ h => h) (Or.inl ⟨by rfl, ?_⟩) ?_ ?_
    rotate_left
    · intro w'
      go_simp
      with_reducible rfl
    rotate_left
    · simp only [Act.put, List.setIfInBounds_toArray, List.set_cons_zero, List.set_cons_succ, i64_w, i32_w]
      rfl
    refine pure_ (i := 2) (N := some 17) (v := ?_) (a' := ?_) #[true, true, true, false, false, false, false, false, false, false, false, false, false, false] rfl rfl (by kernel_rfl) (fun _ _ _ h => h) (Or.inl ⟨by rfl, ?_⟩) ?_ ?_
    rotate_left
    · intro w'
      go_simp
      with_reducible rfl
    rotate_left
    · simp only [Act.put, List.setIfInBounds_toArray, List.set_cons_zero, List.set_cons_succ, i64_w, i32_w]
      rfl
    refine pure_ (i := 5) (N := some 20) (v := ?_) (a' := ?_) #[true, true, true, false, false, true, false, false, false, false, false, false, false, false] rfl rfl (by kernel_rfl) (fun _ _ _ h => h) (Or.inl ⟨by rfl, ?_⟩) ?_ ?_
    rotate_left
    · intro w'
      go_simp
      with_reducible rfl
    rotate_left
    · simp only [Act.put, List.setIfInBounds_toArray, List.set_cons_zero, List.set_cons_succ, i64_w, i32_w]
      rfl
    refine pure_ (i := 6) (N := some 21) (v := ?_) (a' := ?_) #[true, true, true, false, false, true, true, false, false, false, false, false, false, false] rfl rfl (by kernel_rfl) (fun _ _ _ h => h) (Or.inl ⟨by rfl, ?_⟩) ?_ ?_
    rotate_left
    · intro w'
      go_simp
      with_reducible rfl
    rotate_left
    · simp only [Act.put, List.setIfInBounds_toArray, List.set_cons_zero, List.set_cons_succ, i64_w, i32_w]
      rfl
    refine pure_ (i := 7) (N := some 22) (v := ?_) (a' := ?_) #[true, true, true, false, false, true, true, true, false, false, false, false, false, false] rfl rfl (by kernel_rfl) (fun _ _ _ h => h) (Or.inl ⟨by rfl, ?_⟩) ?_ ?_
    rotate_left
    · intro w'
      go_simp
      with_reducible rfl
    rotate_left
    · simp only [Act.put, List.setIfInBounds_toArray, List.set_cons_zero, List.set_cons_succ, i64_w, i32_w]
      rfl
    refine take_ (i := 3) (N := some 18) (v := ?_) (a' := ?_) #[true, true, true, true, false, true, true, true, false, false, false, false, false, false] rfl rfl (by kernel_rfl) (fun _ _ _ h => h) (Or.inl ⟨by rfl, ?_⟩) hHeld ?_ ?_
    rotate_left
    · rintro w' ⟨s0, s1, s2⟩
      go_simp
      with_reducible rfl
    rotate_left
    · simp only [Act.put, List.setIfInBounds_toArray, List.set_cons_zero, List.set_cons_succ, i64_w, i32_w]
      rfl
    refine take_ (i := 4) (N := some 19) (v := ?_) (a' := ?_) #[true, true, true, true, true, true, true, true, false, false, false, false, false, false] rfl rfl (by kernel_rfl) (fun _ _ _ h => h) (Or.inl ⟨by rfl, ?_⟩) hHeld ?_ ?_
    rotate_left
    · rintro w' ⟨s0, s1, s2⟩
      have e_ := Kd.C_string (P := Try.prog) (c := c0) Try.underlying84 Try.underlying5 Try.underlying9 s2
      refine (conv_run rfl (show _ = Value.slice A0 xs.length c0 from rfl) e_).trans ?_
      with_reducible rfl
    rotate_left
    · simp only [Act.put, List.setIfInBounds_toArray, List.set_cons_zero, List.set_cons_succ, i64_w, i32_w]
      rfl
    refine take_ (i := 8) (N := some 23) (v := ?_) (a' := ?_) #[true, true, true, true, true, true, true, true, true, false, false, false, false, false] rfl rfl (by kernel_rfl) (fun _ _ _ h => h) (Or.inl ⟨by rfl, ?_⟩) hHeld ?_ ?_
    rotate_left
    · rintro w' ⟨s0, s1, s2⟩
      go_simp
      with_reducible rfl
    rotate_left
    · simp only [Act.put, List.setIfInBounds_toArray, List.set_cons_zero, List.set_cons_succ, i64_w, i32_w]
      rfl
    refine pure_ (i := 9) (N := some 24) (v := ?_) (a' := ?_) #[true, true, true, true, true, true, true, true, true, true, false, false, false, false] rfl rfl (by kernel_rfl) (fun _ _ _ h => h) (Or.inl ⟨by rfl, ?_⟩) ?_ ?_
    rotate_left
    · intro w'
      go_simp
      with_reducible rfl
    rotate_left
    · simp only [Act.put, List.setIfInBounds_toArray, List.set_cons_zero, List.set_cons_succ, i64_w, i32_w]
      rfl
    refine one_ (i := 10) (N := some 25) #[true, true, true, true, true, true, true, true, true, true, true, false, false, false] rfl rfl (by kernel_rfl) (by decide) (fun K hK => ?_)
    refine value_ (w1 := ?_) (v := ?_) (by rfl) rfl ?_ ?_
    rotate_left 2
    · go_simp
      constructor
      · rfl
      · rfl
    have D4 := Aside0.mk (blk_alloc W1.out (.cells #[.int .u8 (IntKind.u8.wrap wo)] 5))
    refine hK.out _ _ ⟨((blk_cell D4.out 0).trans rfl), ((blk_cell D4.out 1).trans rfl), (Kd.C_alloc (Kd.C_drew HC.out) (.cells #[.int .u8 (IntKind.u8.wrap wo)] 5))⟩ (fun hHeld => ?_)
    clear hK K
    refine norm_ (a' := ?_) ?_ ?_
    rotate_left
    · show Act.put _ (some 25) _ = _
      simp only [Act.put, List.setIfInBounds_toArray, List.set_cons_zero, List.set_cons_succ, i64_w, i32_w]
      rfl
    refine one_ (i := 11) (N := some 26) #[true, true, true, true, true, true, true, true, true, true, true, true, false, false] rfl rfl (by kernel_rfl) (by decide) (fun K hK => ?_)
    have e5_ := Kd.C_string (P := Try.prog) (c := 1) Try.underlying84 Try.underlying5 Try.underlying9 (one_C w.drew (IntKind.u8.wrap wo))
    refine value_ (w1 := w.drew.alloc (.cells #[.int .u8 (IntKind.u8.wrap wo)] 5)) (v := .string (strOfNums [IntKind.u8.wrap wo])) (by rfl) rfl (conv_run rfl rfl e5_) ?_
    refine hK.out _ _ ⟨((blk_cell D4.out 0).trans rfl), ((blk_cell D4.out 1).trans rfl), (Kd.C_alloc (Kd.C_drew HC.out) (.cells #[.int .u8 (IntKind.u8.wrap wo)] 5))⟩ (fun hHeld => ?_)
    clear hK K
    refine norm_ (a' := ?_) ?_ ?_
    rotate_left
    · show Act.put _ (some 26) _ = _
      simp only [Act.put, List.setIfInBounds_toArray, List.set_cons_zero, List.set_cons_succ, i64_w, i32_w]
      rfl
    refine pure_ (i := 12) (N := some 27) (v := ?_) (a' := ?_) #[true, true, true, true, true, true, true, true, true, true, true, true, true, false] rfl rfl (by kernel_rfl) (fun _ _ _ h => h) (Or.inl ⟨by rfl, ?_⟩) ?_ ?_
    rotate_left
    · intro w'
      go_simp
      with_reducible rfl
    rotate_left
    · simp only [Act.put, List.setIfInBounds_toArray, List.set_cons_zero, List.set_cons_succ, i64_w, i32_w]
      rfl
    refine pure_ (i := 13) (N := some 2) (v := ?_) (a' := ?_) #[true, true, true, true, true, true, true, true, true, true, true, true, true, true] rfl rfl (by kernel_rfl) (fun _ _ _ h => h) (Or.inl ⟨by rfl, ?_⟩) ?_ ?_
    rotate_left
    · intro w'
      go_simp
      with_reducible rfl
    rotate_left
    · simp only [Act.put, List.setIfInBounds_toArray, List.set_cons_zero, List.set_cons_succ, i64_w, i32_w]
      rfl
    refine done_ (by kernel_rfl) ?_
    go_wp2
    go_ret
    exact ⟨rfl, below_alloc (by repeat (first | exact Below.refl _ _ | apply pw_below_drewN | apply below_drew1)) _⟩

set_option maxHeartbeats 4000000 in
set_option maxRecDepth 100000 in
theorem New_ok (w : World) : Calls Try.prog 37 #[] w fun e w' => ∃ g : Nat, e = .returned (.pointer (some ⟨g, 0, none⟩)) ∧ Wr w' w.heap.size g (.slice none 0 0) [] 0 0 ∧ w.heap.size ≤ g ∧ Below w.heap.size w w' := by
  go_enter Try.func37, Try.ntmps37
  go_wp2_with ((with_reducible refine gate_dst (N := 2) rfl ?_); refine box_event ?hg (N := 2) ?hd (cs := #[.slice none 0 0, .int .u64 0, .int .i64 0]) (t := 93) ?hr ?_; (case hd => rfl); (case hg => rfl); (case hr => first | (go_simp; done) | (go_simp; rfl)); intro g hg w1 hx1 hB1; have X1 := Aside0.mk hx1; have B1 := Aside0.mk hB1; have G1 := Aside0.mk hg; clear hx1 hB1 hg)
  go_ret
  exact ⟨g, rfl, ⟨X1.out, Kd.R_nil _ _ _ _ _⟩, Nat.le_of_eq G1.out.symm, B1.out⟩

/-- A writer of these bits. -/
def Wb (W : World) (base g : Nat) (v : Value) (l : List Bool) : Prop :=
  ∃ (B : List Nat) (wo n : Nat), (∀ x ∈ B, x < 256) ∧ n < 8 ∧ wo < 2 ^ n ∧ l = bb B ++ nbits n wo ∧ Wr W base g v (zi B) wo n
theorem Wr.below {W W1 : World} {base g : Nat} {v : Value} {xs : List Int} {wo n : Int} (h : Wr W base g v xs wo n) (hb : Below W.heap.size W W1) : Wr W1 base g v xs wo n := ⟨blk_below h.1 hb, Kd.R_below h.2 hb⟩
theorem Wb.below {W W1 : World} {base g : Nat} {v : Value} {l : List Bool} (h : Wb W base g v l) (hb : Below W.heap.size W W1) : Wb W1 base g v l := by
  obtain ⟨B, wo, n, h1, h2, h3, h4, h5⟩ := h
  exact ⟨B, wo, n, h1, h2, h3, h4, h5.below hb⟩
theorem Fr.of_below {w w' : World} {g : Nat} {v : Value} (h : Below w.heap.size w w') : Fr w w' g v := ⟨h.os, h.tape, h.output, h.size, fun i hi _ _ => h.block i hi⟩
theorem tb_lt (c T : Nat) : ∀ x ∈ tb c T, x < 256 := by
  intro x hx
  obtain ⟨i, _, rfl⟩ := List.mem_map.1 hx
  exact Nat.mod_lt _ (by omega)
theorem bb_tb (c T : Nat) : bb (tb c T) = nbits (8 * c) T := by
  induction c with
  | zero => rfl
  | succ c ih =>
    have e1 : tb (c + 1) T = tb c T ++ [T / 2 ^ (8 * c) % 256] := by simp [tb, List.range_succ]
    have e2 : bb [T / 2 ^ (8 * c) % 256] = nbits 8 (T / 2 ^ (8 * c)) := by
      rw [bb_cons, show (256 : Nat) = 2 ^ 8 from rfl, nbits_mod]
      exact List.append_nil _
    rw [e1, bb_append, ih, e2, Nat.mul_add, nbits_add]
theorem bb_len_le {B : List Nat} {n wo : Nat} {l : List Bool} (h : l = bb B ++ nbits n wo) : l.length = 8 * B.length + n := by
  rw [h, List.length_append, bb_length, nbits_length]
/-- The bits behind a put. -/
theorem put_bits {B : List Nat} {n wo x k : Nat} {l : List Bool} (hn : n < 8) (hwo : wo < 2 ^ n) (h : l = bb B ++ nbits n wo) :
    l ++ nbits k x = bb (B ++ tb ((n + k) / 8) (wo + x * 2 ^ n)) ++ nbits ((n + k) % 8) ((wo + x * 2 ^ n) / 2 ^ (8 * ((n + k) / 8))) := by
  have hp := Nat.two_pow_pos n
  have e1 : (wo + x * 2 ^ n) % 2 ^ n = wo := by rw [Nat.add_mul_mod_self_right, Nat.mod_eq_of_lt hwo]
  have e2 : (wo + x * 2 ^ n) / 2 ^ n = x := by rw [Nat.add_mul_div_right _ _ hp, Nat.div_eq_of_lt hwo, Nat.zero_add]
  have e3 : nbits (n + k) (wo + x * 2 ^ n) = nbits n wo ++ nbits k x := by
    rw [nbits_add, e2, ← nbits_mod n (wo + x * 2 ^ n), e1]
  have e4 : n + k = 8 * ((n + k) / 8) + (n + k) % 8 := by omega
  have e5 : nbits (n + k) (wo + x * 2 ^ n) = nbits (8 * ((n + k) / 8)) (wo + x * 2 ^ n) ++ nbits ((n + k) % 8) ((wo + x * 2 ^ n) / 2 ^ (8 * ((n + k) / 8))) := by
    rw [← nbits_add, ← e4]
  rw [h, bb_append, bb_tb, List.append_assoc, List.append_assoc, ← e3, ← e5]

theorem Put_b (g : Nat) (v : Value) (l : List Bool) (x k : Int) (base : Nat) (w : World) (hI : Wb w base g v l) (hb : base ≤ g) (h0 : 0 ≤ x) (hx : x < 18446744073709551616) (hl : l.length ≤ 1099511627776) :
    Calls Try.prog 38 #[.pointer (some ⟨g, 0, none⟩), .int .u64 x, .int .i64 k] w fun e w' => ∃ v' : Value, e = .returned (.int .i64 (rput l x k).2) ∧ Wb w' base g v' (rput l x k).1 ∧ Fr w w' g v ∧ Nw w v v' := by
  unfold rput
  cases hw : okP x k with
  | false =>
    have hbad : ¬ (0 ≤ k ∧ k ≤ 56 ∧ x / 2 ^ k.toNat = 0) := of_decide_eq_false hw
    refine (Put_bad g x k w hbad).mono ?_
    rintro e w' ⟨rfl, hB⟩
    exact ⟨v, rfl, hI.below hB, Fr.of_below hB, .inl rfl⟩
  | true =>
    obtain ⟨hk0, hk1, hk2⟩ : 0 ≤ k ∧ k ≤ 56 ∧ x / 2 ^ k.toNat = 0 := of_decide_eq_true hw
    obtain ⟨m, rfl⟩ : ∃ m : Nat, k = m := ⟨k.toNat, by omega⟩
    obtain ⟨y, rfl⟩ : ∃ y : Nat, x = y := ⟨x.toNat, by omega⟩
    obtain ⟨B, wo, n, h1, h2, h3, h4, h5⟩ := hI
    rw [Int.toNat_natCast] at hk2
    have hy : y < 2 ^ m := by
      have e : (((y / 2 ^ m : Nat)) : Int) = 0 := by simpa using hk2
      have e2 : y / 2 ^ m = 0 := by omega
      rcases (Nat.div_eq_zero_iff).1 e2 with h | h
      · have := Nat.two_pow_pos m; omega
      · exact h
    have hlen := bb_len_le h4
    refine (Put_ok g v (zi B) wo n y m base w h5 hb h2 (by omega) hy h3 (by simp [zi]; omega)).mono ?_
    rintro e w' ⟨v', rfl, hW, hF, hN⟩
    refine ⟨v', rfl, ⟨B ++ tb ((n + m) / 8) (wo + y * 2 ^ n), (wo + y * 2 ^ n) / 2 ^ (8 * ((n + m) / 8)), (n + m) % 8, ?_, by omega, ?_, ?_, ?_⟩, hF, hN⟩
    · intro x hx
      rcases List.mem_append.1 hx with hx | hx
      · exact h1 x hx
      · exact tb_lt _ _ x hx
    · refine Nat.div_lt_of_lt_mul ?_
      rw [← Nat.pow_add]
      have e4 : 8 * ((n + m) / 8) + (n + m) % 8 = n + m := by omega
      rw [e4, Nat.pow_add]
      have hp := Nat.two_pow_pos n
      have : (y + 1) * 2 ^ n ≤ 2 ^ m * 2 ^ n := Nat.mul_le_mul_right _ hy
      rw [Nat.add_mul, Nat.one_mul] at this
      rw [Nat.mul_comm (2 ^ n)]
      omega
    · simp only [if_true, Int.toNat_natCast]
      exact put_bits h2 h3 h4
    · have e : zi (B ++ tb ((n + m) / 8) (wo + y * 2 ^ n)) = zi B ++ zi (tb ((n + m) / 8) (wo + y * 2 ^ n)) := by simp [zi]
      rw [e]
      exact hW

theorem str_app (xs ys : List Int) : strOfNums xs ++ strOfNums ys = strOfNums (xs ++ ys) := by
  refine nb_inj ?_
  rw [nb_append]
  simp [nb, strOfNums]
theorem pack_bits {B : List Nat} {n wo : Nat} {l : List Bool} (hB : ∀ x ∈ B, x < 256) (hn : n < 8) (hwo : wo < 2 ^ n) (h : l = bb B ++ nbits n wo) : pack l = if n = 0 then B else B ++ [wo] := by
  have hlen := bb_len_le h
  have hw256 : wo < 256 := Nat.lt_of_lt_of_le hwo (Nat.pow_le_pow_right (n := 2) (by omega) (show n ≤ 8 by omega))
  have hv : bv l = vb B + 2 ^ (8 * B.length) * wo := by
    rw [h, bv_append, bv_bb B hB, bb_length, bv_nbits, Nat.mod_eq_of_lt hwo]
  by_cases h0 : n = 0
  · subst h0
    rw [if_pos rfl]
    have hw0 : wo = 0 := by simpa using hwo
    refine vb_inj _ _ (by rw [pack_length]; omega) (pack_lt _) hB ?_
    rw [vb_pack, hv, hw0, Nat.mul_zero, Nat.add_zero]
  · rw [if_neg h0]
    refine vb_inj _ _ (by rw [pack_length, List.length_append, List.length_singleton]; omega) (pack_lt _) (fun x hx => ?_) ?_
    · rcases List.mem_append.1 hx with hx | hx
      · exact hB x hx
      · rw [List.mem_singleton.1 hx]; exact hw256
    · rw [vb_pack, hv, vb_append, p256]
      simp [vb]
theorem Bytes_b (g : Nat) (v : Value) (l : List Bool) (base : Nat) (w : World) (hI : Wb w base g v l) (hl : l.length ≤ 1099511627776) :
    Calls Try.prog 40 #[.pointer (some ⟨g, 0, none⟩)] w fun e w' => e = .returned (.string (bstr l)) ∧ Below w.heap.size w w' := by
  obtain ⟨B, wo, n, h1, h2, h3, h4, h5⟩ := hI
  have hlen := bb_len_le h4
  have hw256 : wo < 256 := Nat.lt_of_lt_of_le h3 (Nat.pow_le_pow_right (n := 2) (by omega) (show n ≤ 8 by omega))
  refine (Bytes_ok g v (zi B) wo n base w h5 (by simp [zi]; omega)).mono ?_
  rintro e w' ⟨rfl, hb⟩
  refine ⟨?_, hb⟩
  congr 2
  unfold bstr
  rw [pack_bits h1 h2 h3 h4]
  by_cases h0 : n = 0
  · rw [if_pos (by omega), if_pos h0]; rfl
  · have e : IntKind.u8.wrap (wo : Int) = (wo : Int) := by rw [IntKind.wrap_u8]; omega
    rw [if_neg (by omega), if_neg h0, e, str_app]
    simp [zb, zi]
end Go.Proofs.Ytoondlhlcmjniaa.Hd
