/- bwt: Back, walked by hand. -/
import Derived.Test.YtdifgiceallpiaaDoorZHBw
import Derived.Test.YtdifgiceallpiaaDoorZPureBt
set_option linter.unusedVariables false
set_option linter.unusedSimpArgs false
set_option linter.unusedSectionVars false
namespace Go.Proofs.YtdifgiceallpiaaDoor.Hd
open Go Go.RowKit Go.Proofs.YtdifgiceallpiaaDoorW.PrintWords Go.Proofs.YtdifgiceallpiaaDoorW.PrintLast Go.Proofs.YtdifgiceallpiaaDoorW.PrintMore Go.Proofs.YtdifgiceallpiaaDoor.Hw Go.Proofs.YtdifgiceallpiaaDoor.Com Go.Proofs.YtdifgiceallpiaaDoor.Cn Go.Proofs.YtdifgiceallpiaaDoor.P Go.Proofs.YtdifgiceallpiaaDoor.Bw Go.Proofs.YtdifgiceallpiaaDoor.Sais Go.Proofs.YtdifgiceallpiaaDoor.Pure
attribute [local go_sem] max2_int min2_int max_two min_two max_three min_three max_four min_four
theorem emp_f {s : ByteArray} (h : s.size ≠ 0) : s.toList.isEmpty = false := by
  rw [ByteArray.toList_eq, List.isEmpty_eq_false_iff]
  intro e
  have := congrArg List.length e
  simp at this
  exact h (by rw [this]; rfl)
theorem emp_t {s : ByteArray} (h : s.size = 0) : s.toList.isEmpty = true := by
  rw [ByteArray.toList_eq, List.isEmpty_iff]
  exact List.eq_nil_of_length_eq_zero (by simpa using h)
set_option maxHeartbeats 4000000 in
set_option maxRecDepth 100000 in
theorem back_bad (t : ByteArray) (a : Int) (w : World) (h : a < 0 ∨ (t.size : Int) < a ∨ (a = 0 ∧ t.size ≠ 0)) :
    Calls Tryd.prog 42 #[.string t, .int .i64 a] w fun e w' => e = .returned (.tuple #[.string ⟨#[]⟩, .int .i64 2]) ∧ Below w.heap.size w w' := by
  go_enter Tryd.func42, Tryd.ntmps42
  by_cases h1 : a < 0
  · have t1 : decide (a < 0) = true := decide_eq_true h1
    clear h h1
    go_wp2
    go_ret2
    exact ⟨rfl, Below.refl _ _⟩
  · have t1 : decide (a < 0) = false := decide_eq_false h1
    by_cases h2 : (t.size : Int) < a
    · have t2 : decide ((t.size : Int) < a) = true := decide_eq_true h2
      clear h h1 h2
      go_wp2
      go_ret2
      exact ⟨rfl, Below.refl _ _⟩
    · have t2 : decide ((t.size : Int) < a) = false := decide_eq_false h2
      have h3 : a = 0 ∧ t.size ≠ 0 := by omega
      have t3 : (a == 0) = true := beq_iff_eq.mpr h3.1
      have t4 := emp_f h3.2
      clear h h1 h2 h3
      go_wp2
      go_ret2
      exact ⟨rfl, Below.refl _ _⟩
theorem store_var {P : Program} {ops : Array Oper} {rest : List Oper} {o : Oper} {a : Act} {Q : Exit → Act → World → Prop} {W : World} (hgd : o.guard = none) (ty : TypeId) (x y : Operand) (ho : o.op = .store ty x y) (g : Nat) (cells old : Array Value) (hx : a.eval x = .pointer (some ⟨g, 0, none⟩)) (hy : a.eval y = .agg cells) (hg : W.heap[g]? = some (.cells old ty (0, 0)))
    (hi : (P.info? ty).map (·.size) = some cells.size) (hl : old.size = cells.size) (h1 : cells.all (·.oneCell') = true)
    (h : ∀ w1, Aside0 (w1.heap[g]? = some (.cells cells ty (0, 0))) → Aside0 (W.grownBy w1 (some g)) → wpList P ops Q rest (a.put o.dst undef) w1) : wpList P ops Q (o :: rest) a W :=
  wpList_store_row hgd ty x y ho g cells hx hy ty old hg hi hl h1 (h _ ⟨setRow_heap W g _ _ ty _ hg⟩ ⟨grown_row W g _⟩)
theorem load_run {P : Program} {o : Oper} {a : Act} {W : World} {ty : TypeId} {x : Operand} {b o' : Nat} {cs : List Value} {d : TypeDesc} (ho : o.op = .load ty x) (hx : a.eval x = .pointer (some ⟨b, o', none⟩)) (hc : W.rangeAt b o' cs)
    (hu : P.underlying ty = some d) (hd : d.isRow = true) (hi : (P.info? ty).map (·.size) = some cs.length) : (execOp a.eval o).run P W = .ok (.value (.agg cs.toArray)) W := by
  have := run_loadAt_mid (P := P) W b o' ty cs d hc hu hd hi
  simp [execOp, ho, hx, this]
theorem rangeC {W : World} {b : Nat} {x y : Value} {t : TypeId} (h : W.heap[b]? = some (.cells #[x, y] t (0, 0))) : W.rangeAt b 0 [x, y] := by
  intro j v hj
  rcases j with _ | _ | j
  · cases hj; exact (blk_cell h 0).trans rfl
  · cases hj; exact (blk_cell h 1).trans rfl
  · cases hj
theorem bkR_succ {t : List Nat} {a k i : Nat} {s : List Nat} (h : i ≠ a) : bkR t a (k + 1) i s = bkR t a k (bef t a i) (sgn t a i :: s) := by
  unfold bkR
  rw [if_neg h]
  cases k <;> rfl
theorem infoC : (Tryd.prog.info? 108).map (fun i => (i.zero, i.size, i.bytes)) = some (some (.agg #[.string ⟨#[]⟩, .int .i64 0]), 2, 24) := by kernel_rfl
theorem info5 : (Tryd.prog.info? 5).map (fun i => (i.zero, i.size, i.bytes)) = some (some (.int .u8 0), 1, 1) := by kernel_rfl
theorem str_run {W : World} {o n : Nat} {l : List Int} (h : Blk W o .u8 5 l) (hn : l.length = n) (hm : n ≤ maxLen) : (convert 48 9 (.slice (some ⟨o, 0, none⟩) n n)).run Tryd.prog W = .ok (.string (strOfNums l)) W := by
  subst hn
  have := (Kd.R_reads' (h.R (base := 0) (Nat.zero_le _) hm (fun _ => True) trivial)).2.2
  exact Kd.C_string Tryd.underlying48 Tryd.underlying5 Tryd.underlying9 this
set_option maxHeartbeats 4000000 in
set_option maxRecDepth 100000 in
theorem back_in (t : ByteArray) (a : Nat) (r1 : ByteArray) (r2 : Int) (w : World) (ha : a ≤ t.size) (h0 : a = 0 → t.size = 0) (hs : t.size ≤ 1073741824) (h : bkO t (a : Int) = (r1, r2)) :
    Calls Tryd.prog 42 #[.string t, .int .i64 (a : Int)] w fun e w' => e = .returned (.tuple #[.string r1, .int .i64 r2]) ∧ Below w.heap.size w w' := by
  have HA := Aside0.mk ha
  have HS := Aside0.mk hs
  have H := Aside0.mk h
  have t1 : decide ((a : Int) < 0) = false := decide_eq_false (by omega)
  have t2 : decide ((t.size : Int) < (a : Int)) = false := decide_eq_false (by omega)
  have t2b : decide (t.size < a) = false := decide_eq_false (by omega)
  have hc : (a == 0) = false ∨ ((a == 0) = true ∧ t.toList.isEmpty = true) := by
    by_cases e : a = 0
    · exact .inr ⟨beq_iff_eq.mpr e, emp_t (h0 e)⟩
    · exact .inl (beq_eq_false_iff_ne.mpr e)
  have HZ := Aside0.mk h0
  clear ha h0 hs h
  go_enter Tryd.func42, Tryd.ntmps42
  go_upto_region 1 with (fail)
  go_cut [30] (fun v30 wc => v30 = .bool false ∧ Aside0 (wc = w))
  case first =>
    rcases hc with e | ⟨e, t4⟩
    · have t3 : ((a : Int) == 0) = false := beq_eq_false_iff_ne.mpr (by have := beq_eq_false_iff_ne.mp e; omega)
      go_wp2
      go_meet
      case rel => exact ⟨rfl, ⟨rfl⟩⟩
    · have t3 : ((a : Int) == 0) = true := beq_iff_eq.mpr (by have := beq_iff_eq.mp e; omega)
      go_wp2
      go_meet
      case rel => exact ⟨by simp [t4], ⟨rfl⟩⟩
  case rest =>
    obtain ⟨rfl, hw⟩ := hcut
    obtain rfl := hw.out
    clear t1 t2 t2b hc hw
    go_wp2_with (first
      | ((with_reducible refine gate_dst (N := 6) rfl ?_); refine alloc_var rfl rfl infoC (cs := #[.string ⟨#[]⟩, .int .i64 0]) rfl ?_; intro gc w1 G1 X1 B1)
      | ((with_reducible refine gate_store (t := 108) (p := 6) rfl ?_); refine store_var rfl 108 (.tmp 6) (.tmp 33) rfl gc #[.string t, .int .i64 (a : Int)] #[.string ⟨#[]⟩, .int .i64 0] rfl rfl X1.out sizeC rfl (by simp [Value.oneCell']) ?_; intro w2 C2 E2))
    have B2 := Aside0.mk (show Below wc.heap.size wc w2 from below_grown B1.out E2.out (Nat.le_of_eq G1.out.symm) B1.out.size)
    clear X1 B1 G1 E2
    refine start_ (n := 6) (S := fun w' => w'.heap[gc]? = some (.cells #[.string t, .int .i64 (a : Int)] 108 (0, 0))) (ds := []) #[false, false, false, false, false, false] (by kernel_rfl) rfl rfl (C2.out) (fun hHeld => ?_)
    refine take_ (i := 0) (N := some 34) (v := ?_) (a' := ?_) #[true, false, false, false, false, false] rfl rfl (by kernel_rfl) (fun _ _ _ h => h) (Or.inl ⟨by rfl, ?_⟩) hHeld ?_ ?_
    rotate_left
    · intro w' s0
      refine (load_run rfl (show _ = Value.pointer (some ⟨gc, 0, none⟩) from rfl) (rangeC s0) Tryd.underlying108 rfl sizeC).trans ?_
      with_reducible rfl
    rotate_left
    · simp only [Act.put, List.setIfInBounds_toArray, List.set_cons_zero, List.set_cons_succ, i64_w, i32_w]
      rfl
    refine pure_ (i := 1) (N := some 35) (v := ?_) (a' := ?_) #[true, true, false, false, false, false] rfl rfl (by kernel_rfl) (fun _ _ _ h => h) (Or.inl ⟨by rfl, ?_⟩) ?_ ?_
    rotate_left
    · intro w'
      go_simp
      with_reducible rfl
    rotate_left
    · simp only [Act.put, List.setIfInBounds_toArray, List.set_cons_zero, List.set_cons_succ, i64_w, i32_w]
      rfl
    refine take_ (i := 2) (N := some 36) (v := ?_) (a' := ?_) #[true, true, true, false, false, false] rfl rfl (by kernel_rfl) (fun _ _ _ h => h) (Or.inl ⟨by rfl, ?_⟩) hHeld ?_ ?_
    rotate_left
    · intro w' s0
      refine (load_run rfl (show _ = Value.pointer (some ⟨gc, 0, none⟩) from rfl) (rangeC s0) Tryd.underlying108 rfl sizeC).trans ?_
      with_reducible rfl
    rotate_left
    · simp only [Act.put, List.setIfInBounds_toArray, List.set_cons_zero, List.set_cons_succ, i64_w, i32_w]
      rfl
    refine one_ (i := 3) (N := some 37) #[true, true, true, true, false, false] rfl rfl (by kernel_rfl) (by decide) (fun K hK => ?_)
    refine goes_ Tryd.func63 (by kernel_rfl) rfl #[.agg #[.string t, .int .i64 (a : Int)]] (by rfl) rfl rfl (by simp only [List.map_toArray, List.map_cons, List.map_nil]; rfl) ?_
    with_reducible refine (ahead_ok t a w2.drew HA.out HS.out).mono ?_
    rintro e w3 ⟨gn, rfl, hg, hn, hb⟩
    refine ⟨_, rfl, ?_⟩
    have GN := Aside0.mk hg
    have N3 := Aside0.mk hn
    have C3 := Aside0.mk (show Col w3 gc t a from blk_below (show w2.drew.heap[gc]? = _ from C2.out) hb)
    have B3 := Aside0.mk (below_step (below_drew (Below.refl w2.heap.size w2)) hb)
    clear hg hn hb
    refine hK.out _ _ (C3.out) (fun hHeld => ?_)
    clear hK K
    refine norm_ (a' := ?_) ?_ ?_
    rotate_left
    · show Act.put _ (some 37) _ = _
      simp only [Act.put, List.setIfInBounds_toArray, List.set_cons_zero, List.set_cons_succ, i64_w, i32_w]
      rfl
    refine pure_ (i := 4) (N := some 7) (v := ?_) (a' := ?_) #[true, true, true, true, true, false] rfl rfl (by kernel_rfl) (fun _ _ _ h => h) (Or.inl ⟨by rfl, ?_⟩) ?_ ?_
    rotate_left
    · intro w'
      go_simp
      with_reducible rfl
    rotate_left
    · simp only [Act.put, List.setIfInBounds_toArray, List.set_cons_zero, List.set_cons_succ, i64_w, i32_w]
      rfl
    refine pure_ (i := 5) (N := some 8) (v := ?_) (a' := ?_) #[true, true, true, true, true, true] rfl rfl (by kernel_rfl) (fun _ _ _ h => h) (Or.inl ⟨by rfl, ?_⟩) ?_ ?_
    rotate_left
    · intro w'
      go_simp
      with_reducible rfl
    rotate_left
    · simp only [Act.put, List.setIfInBounds_toArray, List.set_cons_zero, List.set_cons_succ, i64_w, i32_w]
      rfl
    refine done_ (by kernel_rfl) ?_
    have B5 := Aside0.mk (below_step B2.out B3.out)
    have GN' := Aside0.mk (Nat.le_trans B2.out.size GN.out)
    clear B2 B3 GN C2 C3 hHeld
    go_wp2_with (first
      | ((with_reducible refine gate_dst (N := 40) rfl ?_); refine make_blk rfl rfl t.size rfl rfl Tryd.underlying48 .u8 info5 (by decide) (by have := HS.out; omega) ?_; intro gb w6 G6 K6 B6))
    have NE := Aside0.mk (show gn ≠ gb from Nat.ne_of_lt (Nat.lt_of_lt_of_le N3.out.lt G6.out))
    have N6 := Aside0.mk (N3.out.below B6.out)
    have B7 := Aside0.mk (below_step B5.out B6.out)
    have GB := Aside0.mk (Nat.le_trans B5.out.size G6.out)
    clear N3 B5 B6 G6
    go_loopg [10, 11] t.size (fun q v10 v11 w' => ∃ (I K : Int) (i : Nat) (s : List Nat), v10 = .int .i64 I ∧ v11 = .int .i64 K ∧ Aside0 (I = (i : Int) ∧ K = (q : Int) - 1 ∧ s.length + q = t.size ∧ i ≤ t.size ∧ (∀ x ∈ s, x < 256) ∧ bkR (nb t) a q i s = bkR (nb t) a t.size 0 []) ∧ Aside0 (Blk w' gn .i64 3 (tabn (t.size + 1) (fun k => (bef (nb t) a k : Int)))) ∧ Aside0 (Blk w' gb .u8 5 (List.replicate q 0 ++ iN s)) ∧ Aside0 (Below wc.heap.size wc w'))
    case atStart => exact ⟨0, _, 0, [], rfl, rfl, ⟨rfl, w64 (by omega) (by have := HS.out; omega), by rw [List.length_nil]; omega, Nat.zero_le _, (fun _ h => nomatch h), rfl⟩, N6, ⟨by have h := K6.out; unfold iN; rw [List.map_nil, List.append_nil]; exact h⟩, B7⟩
    case round =>
      clear N6 K6 B7
      obtain ⟨I, K, i, s, rfl, rfl, HI, N, O, B⟩ := hrel
      cases gk with
      | zero =>
        have t1 : decide (0 ≤ K) = false := decide_eq_false (by have := HI.out; omega)
        have hsl : s.length = t.size := by have := HI.out; omega
        have hO := O.out
        rw [List.replicate_zero, List.nil_append] at hO
        have hcv := str_run (n := t.size) hO (by rw [iN_len]; exact hsl) (by have := HS.out; unfold maxLen; omega)
        have hny : nb (strOfNums (iN s)) = s := nb_str s HI.out.2.2.2.2.1
        have hys : (strOfNums (iN s)).size = t.size := by rw [← nb_length, hny, hsl]
        have hH := H.out
        unfold bkO at hH
        rw [if_neg (by have := HA.out; rintro (h | h | ⟨h1, h2⟩); (omega); (omega); exact h2 (HZ.out (by omega))), Int.toNat_natCast, ← HI.out.2.2.2.2.2] at hH
        simp only [bkR] at hH
        generalize strOfNums (iN s) = y at hcv hny hys hH
        obtain ⟨kk, hk⟩ := (turn_ev (s := y) (by rw [hys]; exact HS.out)).rounds
        have HK := Aside0.mk hk
        clear hk hny hO hsl
        by_cases c1 : tS y = t
        · have f1 : ((tS y).toList != t.toList) = false := bne_eq_false_iff_eq.mpr (by rw [c1])
          have f0 : ((tS y).toList == t.toList) = true := beq_iff_eq.mpr (by rw [c1])
          by_cases c2 : (tA y : Int) = (a : Int)
          · have f2 : ((tA y : Int) != (a : Int)) = false := bne_eq_false_iff_eq.mpr c2
            have f3 : (tA y == a) = true := beq_iff_eq.mpr (by omega)
            have f4 : (tA y != a) = false := bne_eq_false_iff_eq.mpr (by omega)
            have f5 : ((tA y : Int) == (a : Int)) = true := beq_iff_eq.mpr c2
            rw [if_pos ⟨c1, c2⟩] at hH
            have HH := Aside0.mk hH
            clear hH c1 c2 hys
            go_wp2_with (first
              | (go_at_call 9; (with_reducible refine (bwt_Turn.calls kk y (tS y) (tA y : Int) _ HK.out).mono ?_); rintro e w7 ⟨rfl, hB⟩; have B7 := Aside0.mk (below_step B.out hB); clear hB))
            go_ret2
            obtain ⟨rfl, rfl⟩ := Prod.mk.inj HH.out
            exact ⟨rfl, B7.out⟩
          · have f2 : ((tA y : Int) != (a : Int)) = true := bne_iff_ne.mpr c2
            have f3 : (tA y == a) = false := beq_eq_false_iff_ne.mpr (by omega)
            have f4 : (tA y != a) = true := bne_iff_ne.mpr (by omega)
            have f5 : ((tA y : Int) == (a : Int)) = false := beq_eq_false_iff_ne.mpr c2
            rw [if_neg (fun z => c2 z.2)] at hH
            have HH := Aside0.mk hH
            clear hH c1 c2 hys
            go_wp2_with (first
              | (go_at_call 9; (with_reducible refine (bwt_Turn.calls kk y (tS y) (tA y : Int) _ HK.out).mono ?_); rintro e w7 ⟨rfl, hB⟩; have B7 := Aside0.mk (below_step B.out hB); clear hB))
            go_ret2
            obtain ⟨rfl, rfl⟩ := Prod.mk.inj HH.out
            exact ⟨rfl, B7.out⟩
        · have f1 : ((tS y).toList != t.toList) = true := bne_iff_ne.mpr (fun z => c1 (nb_inj (by rw [ByteArray.toList_eq, ByteArray.toList_eq] at z; unfold nb; rw [z])))
          have f0 : ((tS y).toList == t.toList) = false := beq_eq_false_iff_ne.mpr (bne_iff_ne.mp f1)
          rw [if_neg (fun z => c1 z.1)] at hH
          have HH := Aside0.mk hH
          clear hH c1 hys
          go_wp2_with (first
            | (go_at_call 9; (with_reducible refine (bwt_Turn.calls kk y (tS y) (tA y : Int) _ HK.out).mono ?_); rintro e w7 ⟨rfl, hB⟩; have B7 := Aside0.mk (below_step B.out hB); clear hB))
          go_ret2
          obtain ⟨rfl, rfl⟩ := Prod.mk.inj HH.out
          exact ⟨rfl, B7.out⟩
      | succ q =>
        have t1 : decide (0 ≤ K) = true := decide_eq_true (by have := HI.out; omega)
        by_cases hia : i = a
        · have t2 : (I == (a : Int)) = true := beq_iff_eq.mpr (by have := HI.out; omega)
          have hH := H.out
          unfold bkO at hH
          rw [if_neg (by have := HA.out; rintro (h | h | ⟨h1, h2⟩); (omega); (omega); exact h2 (HZ.out (by omega))), Int.toNat_natCast, ← HI.out.2.2.2.2.2] at hH
          unfold bkR at hH
          rw [if_pos hia] at hH
          have HH := Aside0.mk hH
          clear hH hia
          go_wp2
          go_ret2
          obtain ⟨rfl, rfl⟩ := Prod.mk.inj HH.out
          exact ⟨rfl, B.out⟩
        · have t2 : (I == (a : Int)) = false := beq_eq_false_iff_ne.mpr (by have := HI.out; omega)
          have hR := (bkR_succ hia).symm.trans HI.out.2.2.2.2.2
          obtain ⟨x, hx⟩ : ∃ x, sgn (nb t) a i = x := ⟨_, rfl⟩
          have SG := Aside0.mk (show bwt_column_sign.f t (a : Int) I = some (x : Int) by rw [HI.out.1, sign_at HA.out HI.out.2.2.2.1 hia HS.out, hx])
          have hxl : x < 256 := by rw [← hx]; exact sgn_lt (nb_lt t) a i
          rw [hx] at hR
          have hbl := bef_le (nb t) (a := a) (i := i) (by rw [nb_length]; exact HA.out) (by rw [nb_length]; exact HI.out.2.2.2.1)
          rw [nb_length] at hbl
          have hkn := N.out.cell i (by rw [tabn_length]; have := HI.out; omega)
          rw [tabn_getD (by have := HI.out; omega)] at hkn
          obtain ⟨j, hj⟩ : ∃ j, bef (nb t) a i = j := ⟨_, rfl⟩
          rw [hj] at hR hbl hkn
          have eI : I.toNat = i := by have := HI.out; omega
          have eK : K.toNat = q := by have := HI.out; omega
          rw [← eI] at hkn
          have p1 : (0 ≤ K) = True := eq_true (by have := HI.out; omega)
          have q1 : (K < (t.size : Int)) = True := eq_true (by have := HI.out; omega)
          have p2 : (0 ≤ I) = True := eq_true (by have := HI.out; omega)
          have q2 : (I < (t.size : Int) + 1) = True := eq_true (by have := HI.out; omega)
          have HL := Aside0.mk (show K.toNat < (List.replicate (q + 1) (0 : Int) ++ iN s).length by rw [List.length_append, List.length_replicate]; omega)
          have NEb := NE.out
          have HX := Aside0.mk (And.intro hR (And.intro hbl (And.intro hxl eK)))
          clear hR hbl hxl eK eI hx hia hj
          go_wp2_with (first
            | ((with_reducible refine gate_dst (N := 55) rfl ?_); refine goesV_ (some 55) rfl rfl Tryd.func62 (by kernel_rfl) rfl rfl rfl #[.agg #[.string t, .int .i64 (a : Int)], .int .i64 I] (by simp [go_sem]) ?_; (with_reducible refine (bwt_column_sign.calls t (a : Int) I (x : Int) _ SG.out).mono ?_); rintro e w7 ⟨rfl, hB⟩; refine ⟨_, rfl, ?_⟩; have N7 := Aside0.mk (N.out.below hB); have O7 := Aside0.mk (O.out.below hB); have B7 := Aside0.mk (below_step B.out hB); have k7 := (hB.cell (World.block_lt_of_cell? wr _ hkn)).trans hkn; have c7 := O7.out.cell K.toNat HL.out; have f7 := O7.out.free K.toNat; clear hB hkn))
          go_roundg q
          case measure => omega
          case rel =>
            refine ⟨_, _, j, x :: s, rfl, rfl, ⟨?_, ?_, ?_, HX.out.2.1, ?_, HX.out.1⟩, ⟨N7.out.far NE.out _⟩, ⟨?_⟩, ⟨below_set B7.out GB.out⟩⟩
            · rfl
            · have := HI.out; have := HS.out; rw [w64 (by omega) (by omega)]; omega
            · have := HI.out; rw [List.length_cons]; omega
            · intro y hy
              rcases List.mem_cons.1 hy with e | e
              · rw [e]; exact HX.out.2.2.1
              · exact HI.out.2.2.2.2.1 y e
            · have h := O7.out.put K.toNat (x : Int)
              have e : (List.replicate (q + 1) (0 : Int) ++ iN s).set K.toNat (x : Int) = List.replicate q 0 ++ iN (x :: s) := by
                rw [HX.out.2.2.2, List.set_append, if_pos (by rw [List.length_replicate]; omega), List.replicate_succ', List.set_append, if_neg (by rw [List.length_replicate]; omega), List.length_replicate, Nat.sub_self]
                simp [iN]
              rw [e] at h
              exact h
theorem back_ok (t : ByteArray) (a : Int) (r1 : ByteArray) (r2 : Int) (w : World) (hs : t.size ≤ 1073741824) (h : bkO t a = (r1, r2)) :
    Calls Tryd.prog 42 #[.string t, .int .i64 a] w fun e w' => e = .returned (.tuple #[.string r1, .int .i64 r2]) ∧ Below w.heap.size w w' := by
  by_cases hb : a < 0 ∨ (t.size : Int) < a ∨ (a = 0 ∧ t.size ≠ 0)
  · unfold bkO at h
    rw [if_pos hb] at h
    obtain ⟨rfl, rfl⟩ := Prod.mk.inj h
    exact back_bad t a w hb
  · obtain ⟨n, rfl⟩ : ∃ n : Nat, a = (n : Int) := ⟨a.toNat, by omega⟩
    exact back_in t n r1 r2 w (by omega) (fun e => by omega) hs h
def bwt_Back.f (t : ByteArray) (a : Int) : Option (ByteArray × Int) := if t.size ≤ 1073741824 then some (bkO t a) else none
theorem bwt_Back.calls (t : ByteArray) (a : Int) (r1 : ByteArray) (r2 : Int) (w : World) (h : bwt_Back.f t a = some (r1, r2)) :
    Calls Tryd.prog 42 #[.string t, .int .i64 a] w fun e w' => e = .returned (.tuple #[.string r1, .int .i64 r2]) ∧ Below w.heap.size w w' := by
  unfold bwt_Back.f at h
  split at h
  · rename_i hs
    exact back_ok t a r1 r2 w hs (Option.some.inj h)
  · cases h
end Go.Proofs.YtdifgiceallpiaaDoor.Hd
