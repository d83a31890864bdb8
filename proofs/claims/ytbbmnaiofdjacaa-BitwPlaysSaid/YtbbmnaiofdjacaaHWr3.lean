/- bitw.Writer.Bytes and Align, walked by hand. -/
import Derived.Test.YtbbmnaiofdjacaaHWr2
set_option linter.unusedVariables false
set_option linter.unusedSimpArgs false
set_option linter.unusedSectionVars false
namespace Go.Proofs.Ytbbmnaiofdjacaa.Hd
open Go.RowKit Go.Proofs.YtbbmnaiofdjacaaW.PrintWords Go.Proofs.YtbbmnaiofdjacaaW.PrintLast Go.Proofs.YtbbmnaiofdjacaaW.PrintMore Go.Proofs.Ytbbmnaiofdjacaa.Hw Go.Proofs.Ytbbmnaiofdjacaa.Com Go.Proofs.Ytbbmnaiofdjacaa.P
attribute [local go_sem] max2_int min2_int max_two min_two max_three min_three max_four min_four

theorem conv_run {P : Program} {o : Oper} {a : Act} {W : World} {src dst : TypeId} {x : Operand} {v s : Value} (ho : o.op = .convert src dst x) (hx : a.eval x = v) (h : (convert src dst v).run P W = .ok s W) : (execOp a.eval o).run P W = .ok (.value s) W := by simp [execOp, ho, hx, h]
theorem one_C (W : World) (x : Int) : Kd.C (Kd.int .u8) (W.alloc (.cells #[.int .u8 x] 5)) (some ⟨W.heap.size, 0, none⟩) 1 [x] := by
  have h := Blk.new W .u8 5 [x]
  exact (Kd.R_reads' (Blk.R h (base := 0) (Nat.zero_le _) (by simp [maxLen]) (fun _ => True) trivial)).2.2
set_option maxHeartbeats 4000000 in
set_option maxRecDepth 100000 in
theorem Bytes_ok (g : Nat) (v : Value) (xs : List Int) (wo n : Int) (base : Nat) (w : World) (hI : Wr w base g v xs wo n) (hx : xs.length ≤ 1099511627776) :
    Calls Try.prog 13 #[.pointer (some ⟨g, 0, none⟩)] w fun e w' => e = .returned (.string (if n = 0 then strOfNums xs else strOfNums xs ++ strOfNums [IntKind.u8.wrap wo])) ∧ Below w.heap.size w w' := by
  obtain ⟨h1, h2⟩ := hI
  obtain ⟨A0, c0, rfl⟩ := Kd.R_slice h2
  have hC := (Kd.R_reads' h2).2.2
  have HC := Aside0.mk (show Kd.C (Kd.int .u8) w A0 xs.length xs from hC)
  have W1 := Aside0.mk h1
  have hg0 := (blk_cell h1 0).trans (rfl : _ = some (Value.slice A0 xs.length c0))
  have hg1 := (blk_cell h1 1).trans (rfl : _ = some (Value.int .u64 wo))
  have hg2 := (blk_cell h1 2).trans (rfl : _ = some (Value.int .i64 n))
  have hs := Kd.C_string (P := Try.prog) (c := c0) Try.underlying42 Try.underlying5 Try.underlying9 HC.out
  have hsz : (9223372036854775807 < (strOfNums xs).size + (strOfNums [IntKind.u8.wrap wo]).size) = False := eq_false (by
    have e : ∀ l : List Int, (strOfNums l).size = l.length := fun l => by simp [strOfNums, ByteArray.size]
    rw [e, e, List.length_singleton]; omega)
  clear h1 h2 hC hx
  by_cases hn : n = 0
  · have t1 : (n == 0) = true := beq_iff_eq.2 hn
    rw [if_pos hn]
    go_enter Try.func13, Try.ntmps13
    go_wp2
    go_ret
    exact ⟨rfl, Below.refl _ _⟩
  · have t1 : (n == 0) = false := beq_false_of_ne hn
    rw [if_neg hn]
    go_enter Try.func13, Try.ntmps13
    go_wp2
    refine start_ (n := 14) (S := fun w' => w'.cell? ⟨g, 0, none⟩ = some (.slice A0 xs.length c0) ∧ w'.cell? ⟨g, 1, none⟩ = some (.int .u64 wo) ∧ Kd.C (Kd.int .u8) w' A0 xs.length xs) (ds := []) #[false, false, false, false, false, false, false, false, false, false, false, false, false, false] (by kernel_rfl) rfl rfl ⟨hg0, hg1, (Kd.C_drew HC.out)⟩ (fun hHeld => ?_)
    refine pure_ (i := 0) (N := some 15) (v := ?_) (a' := ?_) #[true, false, false, false, false, false, false, false, false, false, false, false, false, false] rfl rfl (by kernel_rfl) (fun _ _ _ h => h) (Or.inl ⟨by rfl, ?_⟩) ?_ ?_
    rotate_left
    · intro w'
      go_simp
      with_reducible rfl
    rotate_left
    · simp only [Act.put, List.setIfInBounds_toArray, List.set_cons_zero, List.set_cons_succ, i64_w, i32_w]
      rfl
    refine pure_ (i := 1) (N := some 16) (v := ?_) (a' := ?_) #[true, true, false, false, false, false, false, false, false, false, false, false, false, false] rfl rfl (by kernel_rfl) (fun _ _ _ h => h) (Or.inl ⟨by rfl, ?_⟩) ?_ ?_
    rotate_left
    · intro w'
      go_simp
      with_reducible rfl
    rotate_left
    · simp only [Act.put, List.setIfInBounds_toArray, List.set_cons_zero, List.set_cons_succ, i64_w, i32_w]
      rfl
    refine pure_ (i := 2) (N := some 17) (v := ?_) (a' := ?_) #[true, true, true, false, false, false, false, false, false, false, false, false, false, false] rfl rfl (by kernel_rfl) (fun _ _ _ h => h) (Or.inl ⟨by rfl, ?_⟩) ?_ ?_
    rotate_left
    · intro w'
      go_simp
      with_reducible rfl
    rotate_left
    · simp only [Act.put, List.setIfInBounds_toArray, List.set_cons_zero, List.set_cons_succ, i64_w, i32_w]
      rfl
    refine pure_ (i := 5) (N := some 20) (v := ?_) (a' := ?_) #[true, true, true, false, false, true, false, false, false, false, false, false, false, false] rfl rfl (by kernel_rfl) (fun _ _ _ h => h) (Or.inl ⟨by rfl, ?_⟩) ?_ ?_
    rotate_left
    · intro w'
      go_simp
      with_reducible rfl
    rotate_left
    · simp only [Act.put, List.setIfInBounds_toArray, List.set_cons_zero, List.set_cons_succ, i64_w, i32_w]
      rfl
    refine pure_ (i := 6) (N := some 21) (v := ?_) (a' := ?_) #[true, true, true, false, false, true, true, false, false, false, false, false, false, false] rfl rfl (by kernel_rfl) (fun _ _ _ h => h) (Or.inl ⟨by rfl, ?_⟩) ?_ ?_
    rotate_left
    · intro w'
      go_simp
      with_reducible rfl
    rotate_left
    · simp only [Act.put, List.setIfInBounds_toArray, List.set_cons_zero, List.set_cons_succ, i64_w, i32_w]
      rfl
    refine pure_ (i := 7) (N := some 22) (v := ?_) (a' := ?_) #[true, true, true, false, false, true, true, true, false, false, false, false, false, false] rfl rfl (by kernel_rfl) (fun _ _ _ h => h) (Or.inl ⟨by rfl, ?_⟩) ?_ ?_
    rotate_left
    · intro w'
      go_simp
      with_reducible rfl
    rotate_left
    · simp only [Act.put, List.setIfInBounds_toArray, List.set_cons_zero, List.set_cons_succ, i64_w, i32_w]
      rfl
    refine take_ (i := 3) (N := some 18) (v := ?_) (a' := ?_) #[true, true, true, true, false, true, true, true, false, false, false, false, false, false] rfl rfl (by kernel_rfl) (fun _ _ _ h => h) (Or.inl ⟨by rfl, ?_⟩) hHeld ?_ ?_
    rotate_left
    · rintro w' ⟨s0, s1, s2⟩
      go_simp
      with_reducible rfl
    rotate_left
    · simp only [Act.put, List.setIfInBounds_toArray, List.set_cons_zero, List.set_cons_succ, i64_w, i32_w]
      rfl
    refine take_ (i := 4) (N := some 19) (v := ?_) (a' := ?_) #[true, true, true, true, true, true, true, true, false, false, false, false, false, false] rfl rfl (by kernel_rfl) (fun _ _ _ h => h) (Or.inl ⟨by rfl, ?_⟩) hHeld ?_ ?_
    rotate_left
    · rintro w' ⟨s0, s1, s2⟩
      have e_ := Kd.C_string (P := Try.prog) (c := c0) Try.underlying42 Try.underlying5 Try.underlying9 s2
      refine (conv_run rfl (show _ = Value.slice A0 xs.length c0 from rfl) e_).trans ?_
      with_reducible rfl
    rotate_left
    · simp only [Act.put, List.setIfInBounds_toArray, List.set_cons_zero, List.set_cons_succ, i64_w, i32_w]
      rfl
    refine take_ (i := 8) (N := some 23) (v := ?_) (a' := ?_) #[true, true, true, true, true, true, true, true, true, false, false, false, false, false] rfl rfl (by kernel_rfl) (fun _ _ _ h => h) (Or.inl ⟨by rfl, ?_⟩) hHeld ?_ ?_
    rotate_left
    · rintro w' ⟨s0, s1, s2⟩
      go_simp
      with_reducible rfl
    rotate_left
    · simp only [Act.put, List.setIfInBounds_toArray, List.set_cons_zero, List.set_cons_succ, i64_w, i32_w]
      rfl
    refine pure_ (i := 9) (N := some 24) (v := ?_) (a' := ?_) #[true, true, true, true, true, true, true, true, true, true, false, false, false, false] rfl rfl (by kernel_rfl) (fun _ _ _ h => h) (Or.inl ⟨by rfl, ?_⟩) ?_ ?_
    rotate_left
    · intro w'
      go_simp
      with_reducible rfl
    rotate_left
    · simp only [Act.put, List.setIfInBounds_toArray, List.set_cons_zero, List.set_cons_succ, i64_w, i32_w]
      rfl
    refine one_ (i := 10) (N := some 25) #[true, true, true, true, true, true, true, true, true, true, true, false, false, false] rfl rfl (by kernel_rfl) (by decide) (fun K hK => ?_)
    refine value_ (w1 := ?_) (v := ?_) (by rfl) rfl ?_ ?_
    rotate_left 2
    · go_simp
      constructor
      · rfl
      · rfl
    have D4 := Aside0.mk (blk_alloc W1.out (.cells #[.int .u8 (IntKind.u8.wrap wo)] 5))
    refine hK.out _ _ ⟨((blk_cell D4.out 0).trans rfl), ((blk_cell D4.out 1).trans rfl), (Kd.C_alloc (Kd.C_drew HC.out) (.cells #[.int .u8 (IntKind.u8.wrap wo)] 5))⟩ (fun hHeld => ?_)
    clear hK K
    refine norm_ (a' := ?_) ?_ ?_
    rotate_left
    · show Act.put _ (some 25) _ = _
      simp only [Act.put, List.setIfInBounds_toArray, List.set_cons_zero, List.set_cons_succ, i64_w, i32_w]
      rfl
    refine one_ (i := 11) (N := some 26) #[true, true, true, true, true, true, true, true, true, true, true, true, false, false] rfl rfl (by kernel_rfl) (by decide) (fun K hK => ?_)
    have e5_ := Kd.C_string (P := Try.prog) (c := 1) Try.underlying42 Try.underlying5 Try.underlying9 (one_C w.drew (IntKind.u8.wrap wo))
    refine value_ (w1 := w.drew.alloc (.cells #[.int .u8 (IntKind.u8.wrap wo)] 5)) (v := .string (strOfNums [IntKind.u8.wrap wo])) (by rfl) rfl (conv_run rfl rfl e5_) ?_
    refine hK.out _ _ ⟨((blk_cell D4.out 0).trans rfl), ((blk_cell D4.out 1).trans rfl), (Kd.C_alloc (Kd.C_drew HC.out) (.cells #[.int .u8 (IntKind.u8.wrap wo)] 5))⟩ (fun hHeld => ?_)
    clear hK K
    refine norm_ (a' := ?_) ?_ ?_
    rotate_left
    · show Act.put _ (some 26) _ = _
      simp only [Act.put, List.setIfInBounds_toArray, List.set_cons_zero, List.set_cons_succ, i64_w, i32_w]
      rfl
    refine pure_ (i := 12) (N := some 27) (v := ?_) (a' := ?_) #[true, true, true, true, true, true, true, true, true, true, true, true, true, false] rfl rfl (by kernel_rfl) (fun _ _ _ h => h) (Or.inl ⟨by rfl, ?_⟩) ?_ ?_
    rotate_left
    · intro w'
      go_simp
      with_reducible rfl
    rotate_left
    · simp only [Act.put, List.setIfInBounds_toArray, List.set_cons_zero, List.set_cons_succ, i64_w, i32_w]
      rfl
    refine pure_ (i := 13) (N := some 2) (v := ?_) (a' := ?_) #[true, true, true, true, true, true, true, true, true, true, true, true, true, true] rfl rfl (by kernel_rfl) (fun _ _ _ h => h) (Or.inl ⟨by rfl, ?_⟩) ?_ ?_
    rotate_left
    · intro w'
      go_simp
      with_reducible rfl
    rotate_left
    · simp only [Act.put, List.setIfInBounds_toArray, List.set_cons_zero, List.set_cons_succ, i64_w, i32_w]
      rfl
    refine done_ (by kernel_rfl) ?_
    go_wp2
    go_ret
    exact ⟨rfl, below_alloc (by repeat (first | exact Below.refl _ _ | apply pw_below_drewN | apply below_drew1)) _⟩

set_option maxHeartbeats 4000000 in
set_option maxRecDepth 100000 in
theorem New_ok (w : World) : Calls Try.prog 7 #[] w fun e w' => ∃ g : Nat, e = .returned (.pointer (some ⟨g, 0, none⟩)) ∧ Wr w' w.heap.size g (.slice none 0 0) [] 0 0 ∧ w.heap.size ≤ g ∧ Below w.heap.size w w' := by
  go_enter Try.func7, Try.ntmps7
  go_wp2_with ((with_reducible refine gate_dst (N := 2) rfl ?_); refine box_event ?hg (N := 2) ?hd (cs := #[.slice none 0 0, .int .u64 0, .int .i64 0]) (t := 44) ?hr ?_; (case hd => rfl); (case hg => rfl); (case hr => first | (go_simp; done) | (go_simp; rfl)); intro g hg w1 hx1 hB1; have X1 := Aside0.mk hx1; have B1 := Aside0.mk hB1; have G1 := Aside0.mk hg; clear hx1 hB1 hg)
  go_ret
  exact ⟨g, rfl, ⟨X1.out, Kd.R_nil _ _ _ _ _⟩, Nat.le_of_eq G1.out.symm, B1.out⟩

set_option maxHeartbeats 4000000 in
set_option maxRecDepth 100000 in
theorem Align_zero (g : Nat) (v : Value) (xs : List Int) (wo : Int) (base : Nat) (w : World) (hI : Wr w base g v xs wo 0) :
    Calls Try.prog 9 #[.pointer (some ⟨g, 0, none⟩)] w fun e w' => e = .returned (.int .i64 0) ∧ Drawn0 w w' := by
  have hg2 := (blk_cell hI.1 2).trans (rfl : _ = some (Value.int .i64 0))
  clear hI
  go_enter Try.func9, Try.ntmps9
  go_wp2
  go_ret
  exact ⟨rfl, by repeat (first | exact Drawn0.refl _ | apply Drawn0.step)⟩
set_option maxHeartbeats 4000000 in
set_option maxRecDepth 100000 in
theorem Align_more (g : Nat) (v : Value) (xs : List Int) (wo n : Nat) (base : Nat) (w : World) (hI : Wr w base g v xs wo n) (hb : base ≤ g) (h0 : 0 < n) (hn : n < 8) (hwo : wo < 2 ^ n) (hxs : xs.length ≤ 1099511627776) :
    Calls Try.prog 9 #[.pointer (some ⟨g, 0, none⟩)] w fun e w' => ∃ v' : Value, e = .returned (.int .i64 ((8 - n : Nat) : Int)) ∧ Wr w' base g v' (xs ++ zi (tb ((n + (8 - n)) / 8) (wo + 0 * 2 ^ n))) ((((wo + 0 * 2 ^ n) / 2 ^ (8 * ((n + (8 - n)) / 8)) : Nat)) : Int) (((n + (8 - n)) % 8 : Nat) : Int) ∧ Fr w w' g v ∧ Nw w v v' := by
  have hg2 := (blk_cell hI.1 2).trans (rfl : _ = some (Value.int .i64 n))
  have t1 : ((n : Int) == 0) = false := beq_false_of_ne (by omega)
  have e8 : wrap64 (8 - (n : Int)) = ((8 - n : Nat) : Int) := by rw [w64 (by omega) (by omega)]; omega
  have HP := Aside0.mk (fun w1 (h : Wr w1 base g v xs wo n) => Put_ok g v xs wo n 0 (8 - n) base w1 h hb hn (by omega) (Nat.two_pow_pos _) hwo hxs)
  have HI := Aside0.mk hI
  have HE := Aside0.mk e8
  clear hI hb h0 hn hwo hxs e8
  go_enter Try.func9, Try.ntmps9
  go_wp2_with (go_at_call 11; rw [HE.out]; refine (HP.out _ HI.out).mono ?_; rintro e w5 ⟨v5, rfl, h5⟩; have H5 := Aside0.mk h5; clear h5)
  go_ret
  exact ⟨v5, rfl, H5.out⟩
end Go.Proofs.Ytbbmnaiofdjacaa.Hd
