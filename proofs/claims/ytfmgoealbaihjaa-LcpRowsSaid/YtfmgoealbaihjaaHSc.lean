/- suffix: counted, walked by hand. -/
import Derived.Test.YtfmgoealbaihjaaHSb
import Derived.Test.YtfmgoealbaihjaaSaDbl
set_option linter.unusedVariables false
set_option linter.unusedSimpArgs false
set_option linter.unusedSectionVars false
namespace Go.Proofs.Ytfmgoealbaihjaa.Hd
open Go Go.RowKit Go.Proofs.YtfmgoealbaihjaaW.PrintWords Go.Proofs.YtfmgoealbaihjaaW.PrintLast Go.Proofs.YtfmgoealbaihjaaW.PrintMore Go.Proofs.Ytfmgoealbaihjaa.Hw Go.Proofs.Ytfmgoealbaihjaa.Com Go.Proofs.Ytfmgoealbaihjaa.Cn Go.Proofs.Ytfmgoealbaihjaa.P Go.Proofs.Ytfmgoealbaihjaa.Sais
attribute [local go_sem] max2_int min2_int max_two min_two max_three min_three max_four min_four
/-- A function value that tells ranks. -/
def RankV (w : World) (f : FuncId) (cap : Array Value) (P : List Nat) (rank : Nat → Nat) : Prop :=
  ∀ p, p ∈ P → ∀ w', Below w.heap.size w w' → Calls Try.prog f (#[.int .i64 (p : Int)] ++ cap) w' fun e w'' => e = .returned (.int .i64 (rank p : Int)) ∧ Below w'.heap.size w' w''
set_option maxHeartbeats 16000000 in
set_option maxRecDepth 100000 in
theorem counted_ok (A0 : Option Addr) (c0 many : Nat) (P : List Nat) (rank : Nat → Nat) (f : FuncId) (fn : Func) (cap : Array Value) (w : World) (hC : Kd.C (Kd.int .i64) w A0 P.length (iN P)) (hr : ∀ p, p ∈ P → rank p < many) (hR : RankV w f cap P rank)
    (hf : Try.prog.funcs[f]? = some fn) (hname : (fn.name == "runtime.NumGoroutine") = false) (hb : fn.body.isSome = true) (hl : P.length ≤ 1073741824) (hm : many ≤ 1073741824) :
    Calls Try.prog 21 #[.slice A0 P.length c0, .int .i64 (many : Int), .func (.func f) #[] cap] w fun e w' => ∃ g : Nat, e = .returned (.slice (some ⟨g, 0, none⟩) P.length P.length) ∧ w.heap.size ≤ g ∧ Blk w' g .i64 3 (iN (csL P rank)) ∧ Below w.heap.size w w' := by
  obtain ⟨m1, hm1⟩ : ∃ m1, many + 1 = m1 := ⟨_, rfl⟩
  have e0 : wrap64 ((many : Int) + 1) = (m1 : Int) := by rw [w64 (by omega) (by omega)]; omega
  have HN := Aside0.mk (And.intro hl (And.intro hm hm1))
  have HR := Aside0.mk hR
  have HC := Aside0.mk hC
  have HRK := Aside0.mk hr
  obtain ⟨b, hbP⟩ : ∃ b, bP P rank = b := ⟨_, rfl⟩
  have HB := Aside0.mk hbP
  have hrd : ∀ j, j < P.length → ∃ (ad : Addr) (p : Nat), A0 = some ad ∧ P.getD j 0 = p ∧ p ∈ P ∧ w.cell? (ad.add j) = some (.int .i64 (p : Int)) ∧ b j = rank p ∧ rank p < many := by
    intro j hj
    obtain ⟨ad, h1, h2⟩ := c_cell hC hj rfl
    have hmem : P.getD j 0 ∈ P := by rw [gD hj]; exact List.getElem_mem hj
    exact ⟨ad, _, h1, rfl, hmem, h2, by rw [← hbP]; rfl, hr _ hmem⟩
  have HRD := Aside0.mk hrd
  clear hC hr hR hl hm hm1 hrd hbP
  go_enter Try.func21, Try.ntmps21
  go_wp2_with (first
    | ((with_reducible refine gate_dst (N := 17) rfl ?_); refine make_blk rfl rfl m1 (congrArg (Value.int .i64) e0) (congrArg (Value.int .i64) e0) Try.underlying22 .i64 info3 (by decide) (by have := HN.out; omega) ?_; intro g w2 G2 B2 C2))
  have B2' := Aside0.mk (show Blk w2 g .i64 3 (tabn m1 (fun r => if r = 0 then (0 : Int) else (szT b 0 (r - 1) : Int))) from by
    have := B2.out
    rw [tabn_zero] at this
    refine (congrArg (Blk _ g .i64 3) (tabn_congr (fun r _ => ?_))).mp this
    by_cases h : r = 0
    · rw [if_pos h]
    · rw [if_neg h]; rfl)
  clear B2 e0
  go_loopg [20] P.length (fun q v20 w' => ∃ (L : Int) (j : Nat), v20 = .int .i64 L ∧ Aside0 (L = (j : Int) ∧ j + q = P.length) ∧ Aside0 (Blk w' g .i64 3 (tabn m1 (fun r => if r = 0 then (0 : Int) else (szT b j (r - 1) : Int)))) ∧ Aside0 (Below w.heap.size w w'))
  case atStart => exact ⟨0, 0, rfl, ⟨rfl, by omega⟩, B2', C2⟩
  case round =>
    clear B2' C2
    obtain ⟨L, j, rfl, HL, B, C⟩ := hrel
    cases gk with
    | succ q =>
      obtain rfl : L = (j : Int) := HL.out.1
      have hjl : j < P.length := by have := HL.out; omega
      obtain ⟨ad, p, hA, hp, hpP, hpc, hbr, hrm⟩ := HRD.out j hjl
      subst hA
      have t1 : decide ((j : Int) < (P.length : Int)) = true := decide_eq_true (by omega)
      have t2 : decide (j < P.length) = true := decide_eq_true hjl
      have p1 : ((j : Int) < (P.length : Int)) = True := eq_true (by omega)
      have p2 : (j < P.length) = True := eq_true hjl
      have e1 : wrap64 ((j : Int) + 1) = ((j + 1 : Nat) : Int) := by have := HN.out; rw [w64 (by omega) (by omega)]; omega
      have k1 := (C.out.cell (World.block_lt_of_cell? w _ hpc)).trans hpc
      obtain ⟨r, hr⟩ : ∃ r, rank p = r := ⟨_, rfl⟩
      obtain ⟨r1, hr1⟩ : ∃ r1, r + 1 = r1 := ⟨_, rfl⟩
      rw [hr] at hbr hrm
      have e2 : wrap64 ((r : Int) + 1) = (r1 : Int) := by have := HN.out; rw [w64 (by omega) (by omega)]; omega
      have hr1m : r1 < m1 := by rw [← hr1, ← HN.out.2.2]; exact Nat.succ_lt_succ hrm
      have p3 : ((r1 : Int) < (m1 : Int)) = True := eq_true (Int.ofNat_lt.2 hr1m)
      have p4 : (r1 < m1) = True := eq_true hr1m
      obtain ⟨sv, hsv⟩ : ∃ sv, szT b j r = sv := ⟨_, rfl⟩
      have hsl := szT_le b j r
      have e3 : wrap64 ((sv : Int) + 1) = ((sv + 1 : Nat) : Int) := by have := HN.out; rw [w64 (by omega) (by omega)]; omega
      have HP := Aside0.mk (And.intro hpP (And.intro hbr (And.intro hr (And.intro hr1 hsv))))
      clear hjl hp hpP hpc hbr hrm hr hr1 hsv hsl hr1m
      go_wp2_with (first
        | ((with_reducible refine gate_dst (N := 27) rfl ?_); refine goesV_ (some 27) rfl rfl hf hname hb rfl rfl (#[.int .i64 (p : Int)] ++ cap) (by simp [go_sem]) ?_; refine (HR.out p HP.out.1 _ C.out).mono ?_; rintro e w4 ⟨rfl, hB⟩; refine ⟨_, rfl, ?_⟩; rw [HP.out.2.2.1]; have C4 := Aside0.mk (below_step C.out hB); have B4 := Aside0.mk (B.out.below hB); have kf := B4.out.free r1; have kg : w4.cell? ⟨g, r1, none⟩ = some (.int .i64 (sv : Int)) := (by have h := B4.out.cell r1 (by rw [tabn_length]; exact of_eq_true p4); rw [tabn_getD (of_eq_true p4), if_neg (by have := HP.out; omega), show r1 - 1 = r from by have := HP.out; omega, HP.out.2.2.2.2] at h; exact h); clear hB))
      go_roundg q
      case measure => omega
      case rel =>
        refine ⟨((j + 1 : Nat) : Int), j + 1, by first | rfl | simp only [e1] | (rw [e1]), ⟨rfl, by have := HL.out; omega⟩, ⟨?_⟩, ⟨below_set C4.out G2.out⟩⟩
        try rw [e3]
        refine blk_step B4.out (fun y hy => ?_)
        obtain ⟨_, h2, _, h4, h5⟩ := HP.out
        clear e1 e2 e3 p1 p2 p3 p4 t1 t2 kg kf k1
        by_cases e : y = r1
        · have e9 : szT b (j + 1) (y - 1) = sv + 1 := by rw [szT_succ, h2, if_pos (by omega), e, show r1 - 1 = r from by omega, h5]
          rw [if_pos e, if_neg (by omega), e9]
          first | rfl | omega
        · rw [if_neg e]
          by_cases h0 : y = 0
          · rw [if_pos h0, if_pos h0]
          · rw [if_neg h0, if_neg h0, szT_succ, h2, if_neg (by omega), Nat.add_zero]
    | zero =>
      have t1 : decide (L < (P.length : Int)) = false := decide_eq_false (by have := HL.out; omega)
      have B5 := Aside0.mk (show Blk wr g .i64 3 (tabn m1 (fun r => if r < 1 then (hd P.length b upB r : Int) else (szT b P.length (r - 1) : Int))) from by
        refine (congrArg (Blk _ g .i64 3) (tabn_congr (fun r _ => ?_))).mp B.out
        rw [show j = P.length from by have := HL.out; omega]
        by_cases h0 : r = 0
        · rw [if_pos h0, if_pos (by omega), h0, hd0]; rfl
        · rw [if_neg h0, if_neg (by omega)])
      clear B HL
      go_wp2
      go_loopg [10] many (fun q v10 w' => ∃ i : Nat, v10 = .int .i64 (i : Int) ∧ Aside0 (i + q = many + 1 ∧ 1 ≤ i) ∧ Aside0 (Blk w' g .i64 3 (tabn m1 (fun r => if r < i then (hd P.length b upB r : Int) else (szT b P.length (r - 1) : Int)))) ∧ Aside0 (Below w.heap.size w w'))
      case atStart => exact ⟨1, rfl, ⟨by omega, Nat.le_refl _⟩, B5, C⟩
      case round =>
        clear B5 C t1
        obtain ⟨i, rfl, HL, B, C⟩ := hrel
        cases gk with
        | succ q =>
          obtain ⟨k, hk⟩ : ∃ k, i = k + 1 := ⟨i - 1, by have := HL.out; omega⟩
          have him : i < m1 := by have := HL.out; have := HN.out; omega
          have t1 : decide ((i : Int) ≤ (many : Int)) = true := decide_eq_true (by have := HL.out; omega)
          have t2 : decide (i ≤ many) = true := decide_eq_true (by have := HL.out; omega)
          have e1 : wrap64 ((i : Int) + 1) = ((i + 1 : Nat) : Int) := by have := HN.out; have := HL.out; rw [w64 (by omega) (by omega)]; omega
          have e2 : wrap64 ((i : Int) - 1) = (k : Int) := by have := HN.out; have := HL.out; rw [w64 (by omega) (by omega)]; omega
          have p1 : ((i : Int) < (m1 : Int)) = True := eq_true (by omega)
          have p2 : (i < m1) = True := eq_true him
          have p3 : ((k : Int) < (m1 : Int)) = True := eq_true (by omega)
          have p4 : (k < m1) = True := eq_true (by omega)
          have k1 := B.out.cell i (by rw [tabn_length]; exact him)
          rw [tabn_getD him, if_neg (Nat.lt_irrefl i), show i - 1 = k from by omega] at k1
          have k2 := B.out.cell k (by rw [tabn_length]; omega)
          rw [tabn_getD (by omega), if_pos (by omega)] at k2
          have hsum := hd_succ P.length b k
          have hle := hd_le P.length b (k + 1)
          obtain ⟨ci, hci⟩ : ∃ ci, szT b P.length k = ci := ⟨_, rfl⟩
          obtain ⟨ck, hck⟩ : ∃ ck, hd P.length b upB k = ck := ⟨_, rfl⟩
          rw [hci] at k1
          rw [hck] at k2
          have hsz : sz P.length b k = ci := hci
          rw [hck, hsz] at hsum
          have EW := Aside0.mk (show wrap64 ((ci : Int) + (ck : Int)) = (hd P.length b upB i : Int) from by
            have := HN.out
            rw [hk]
            rw [w64 (by omega) (by omega)]; omega)
          have HK := Aside0.mk hk
          clear hk him hsum hle hci hck hsz
          go_wp2
          refine start_ (n := 12) (S := fun w' => w'.cell? ⟨g, i, none⟩ = some (.int .i64 (ci : Int)) ∧ w'.cell? ⟨g, k, none⟩ = some (.int .i64 (ck : Int))) (ds := [11]) #[false, false, false, false, false, false, false, false, false, false, false, false] (by kernel_rfl) rfl rfl ⟨k1, k2⟩ (fun hHeld => ?_)
          refine pure_ (i := 0) (N := some 39) (v := ?_) (a' := ?_) #[true, false, false, false, false, false, false, false, false, false, false, false] rfl rfl (by kernel_rfl) (fun _ _ _ h => h) (Or.inl ⟨by rfl, ?_⟩) ?_ ?_
          rotate_left
          · intro w'
            go_simp
            with_reducible rfl
          rotate_left
          · simp only [Act.put, List.setIfInBounds_toArray, List.set_cons_zero, List.set_cons_succ, i64_w, i32_w]
            rfl
          refine pure_ (i := 1) (N := some 40) (v := ?_) (a' := ?_) #[true, true, false, false, false, false, false, false, false, false, false, false] rfl rfl (by kernel_rfl) (fun _ _ _ h => h) (Or.inl ⟨by rfl, ?_⟩) ?_ ?_
          rotate_left
          · intro w'
            go_simp
            with_reducible rfl
          rotate_left
          · simp only [Act.put, List.setIfInBounds_toArray, List.set_cons_zero, List.set_cons_succ, i64_w, i32_w]
            rfl
          refine pure_ (i := 2) (N := some 41) (v := ?_) (a' := ?_) #[true, true, true, false, false, false, false, false, false, false, false, false] rfl rfl (by kernel_rfl) (fun _ _ _ h => h) (Or.inl ⟨by rfl, ?_⟩) ?_ ?_
          rotate_left
          · intro w'
            go_simp
            with_reducible rfl
          rotate_left
          · simp only [Act.put, List.setIfInBounds_toArray, List.set_cons_zero, List.set_cons_succ, i64_w, i32_w]
            rfl
          refine pure_ (i := 4) (N := some 43) (v := ?_) (a' := ?_) #[true, true, true, false, true, false, false, false, false, false, false, false] rfl rfl (by kernel_rfl) (fun _ _ _ h => h) (Or.inl ⟨by rfl, ?_⟩) ?_ ?_
          rotate_left
          · intro w'
            go_simp
            with_reducible rfl
          rotate_left
          · simp only [Act.put, List.setIfInBounds_toArray, List.set_cons_zero, List.set_cons_succ, i64_w, i32_w]
            rfl
          refine pure_ (i := 5) (N := some 44) (v := ?_) (a' := ?_) #[true, true, true, false, true, true, false, false, false, false, false, false] rfl rfl (by kernel_rfl) (fun _ _ _ h => h) (Or.inl ⟨by rfl, ?_⟩) ?_ ?_
          rotate_left
          · intro w'
            go_simp
            with_reducible rfl
          rotate_left
          · simp only [Act.put, List.setIfInBounds_toArray, List.set_cons_zero, List.set_cons_succ, i64_w, i32_w]
            rfl
          refine pure_ (i := 6) (N := some 45) (v := ?_) (a' := ?_) #[true, true, true, false, true, true, true, false, false, false, false, false] rfl rfl (by kernel_rfl) (fun _ _ _ h => h) (Or.inl ⟨by rfl, ?_⟩) ?_ ?_
          rotate_left
          · intro w'
            go_simp
            with_reducible rfl
          rotate_left
          · simp only [Act.put, List.setIfInBounds_toArray, List.set_cons_zero, List.set_cons_succ, i64_w, i32_w]
            rfl
          refine pure_ (i := 7) (N := some 46) (v := ?_) (a' := ?_) #[true, true, true, false, true, true, true, true, false, false, false, false] rfl rfl (by kernel_rfl) (fun _ _ _ h => h) (Or.inl ⟨by rfl, ?_⟩) ?_ ?_
          rotate_left
          · intro w'
            go_simp
            with_reducible rfl
          rotate_left
          · simp only [Act.put, List.setIfInBounds_toArray, List.set_cons_zero, List.set_cons_succ, i64_w, i32_w]
            rfl
          refine take_ (i := 3) (N := some 42) (v := ?_) (a' := ?_) #[true, true, true, true, true, true, true, true, false, false, false, false] rfl rfl (by kernel_rfl) (fun _ _ _ h => h) (Or.inl ⟨by rfl, ?_⟩) hHeld ?_ ?_
          rotate_left
          · rintro w' ⟨s0, s1⟩
            go_simp
            with_reducible rfl
          rotate_left
          · simp only [Act.put, List.setIfInBounds_toArray, List.set_cons_zero, List.set_cons_succ, i64_w, i32_w]
            rfl
          refine take_ (i := 8) (N := some 47) (v := ?_) (a' := ?_) #[true, true, true, true, true, true, true, true, true, false, false, false] rfl rfl (by kernel_rfl) (fun _ _ _ h => h) (Or.inl ⟨by rfl, ?_⟩) hHeld ?_ ?_
          rotate_left
          · rintro w' ⟨s0, s1⟩
            go_simp
            with_reducible rfl
          rotate_left
          · simp only [Act.put, List.setIfInBounds_toArray, List.set_cons_zero, List.set_cons_succ, i64_w, i32_w]
            rfl
          refine pure_ (i := 9) (N := some 48) (v := ?_) (a' := ?_) #[true, true, true, true, true, true, true, true, true, true, false, false] rfl rfl (by kernel_rfl) (fun _ _ _ h => h) (Or.inl ⟨by rfl, ?_⟩) ?_ ?_
          rotate_left
          · intro w'
            go_simp
            with_reducible rfl
          rotate_left
          · simp only [Act.put, List.setIfInBounds_toArray, List.set_cons_zero, List.set_cons_succ, i64_w, i32_w]
            rfl
          refine pure_ (i := 10) (N := some 49) (v := ?_) (a' := ?_) #[true, true, true, true, true, true, true, true, true, true, true, false] rfl rfl (by kernel_rfl) (fun _ _ _ h => h) (Or.inl ⟨by rfl, ?_⟩) ?_ ?_
          rotate_left
          · intro w'
            go_simp
            with_reducible rfl
          rotate_left
          · simp only [Act.put, List.setIfInBounds_toArray, List.set_cons_zero, List.set_cons_succ, i64_w, i32_w]
            rfl
          refine last_ (i := 11) (N := none) #[true, true, true, true, true, true, true, true, true, true, true, true] rfl rfl (by kernel_rfl) (by decide) (fun K hK => ?_)
          have hfz : wr.drew.frozen? ⟨g, i, none⟩ = false := B.out.free i
          have hcz : wr.drew.cell? ⟨g, i, none⟩ = some (.int .i64 (ci : Int)) := k1
          refine skip_ (w1 := ?_) (by rfl) rfl ?_ ?_
          rotate_left
          · go_simp
            rfl
          refine hK.out _ _ ?_
          clear hK K
          refine done_ (by kernel_rfl) ?_
          clear hHeld k1 k2 hfz hcz
          go_wp2
          go_roundg q
          case measure => omega
          case rel =>
            refine ⟨i + 1, by first | rfl | simp only [e1] | (rw [e1]), ⟨by have := HL.out; omega, by omega⟩, ⟨?_⟩, ⟨below_set (below_drew C.out) G2.out⟩⟩
            rw [EW.out]
            refine blk_step B.out.drew (fun y hy => ?_)
            by_cases e : y = i
            · rw [if_pos e, if_pos (by omega), e]
            · rw [if_neg e]
              by_cases h2 : y < i
              · rw [if_pos h2, if_pos (by omega)]
              · rw [if_neg h2, if_neg (by omega)]
        | zero =>
          have t1 : decide ((i : Int) ≤ (many : Int)) = false := decide_eq_false (by have := HL.out; omega)
          have t2 : decide (i ≤ many) = false := decide_eq_false (by have := HL.out; omega)
          have B5 := Aside0.mk (show Blk wr g .i64 3 (tabn m1 (fun r => ((hd P.length b upB r + szT b 0 r : Nat) : Int))) from by
            refine (congrArg (Blk _ g .i64 3) (tabn_congr (fun r hr => ?_))).mp B.out
            rw [if_pos (by have := HL.out; have := HN.out; omega)]; rfl)
          clear B HL
          go_wp2_with (first
            | ((with_reducible refine gate_dst (N := 52) rfl ?_); refine make_blk rfl rfl P.length rfl rfl Try.underlying22 .i64 info3 (by decide) (by have := HN.out; omega) ?_; intro go w6 G6 B6 C6; have I6 := Aside0.mk (show I2 w go g P.length m1 (fun s => (outF P rank 0 s : Int)) (fun r => ((hd P.length b upB r + szT b 0 r : Nat) : Int)) w6 from ⟨by have := B6.out; rw [tabn_zero] at this; exact this, B5.out.below C6.out, by have := B5.out.lt; have := G6.out; omega, Nat.le_trans C.out.size G6.out, G2.out, below_step C.out C6.out⟩)))
          clear B5 C t1 t2 B6 C6
          go_loopg [55] P.length (fun q v55 w' => ∃ (L : Int) (j : Nat), v55 = .int .i64 L ∧ Aside0 (L = (j : Int) ∧ j + q = P.length) ∧ Aside0 (I2 w go g P.length m1 (fun s => (outF P rank j s : Int)) (fun r => ((hd P.length b upB r + szT b j r : Nat) : Int)) w'))
          case atStart => exact ⟨0, 0, rfl, ⟨rfl, by omega⟩, I6⟩
          case round =>
            clear I6
            obtain ⟨L, j, rfl, HL, I⟩ := hrel
            cases gk with
            | zero =>
              have t1 : decide (L < (P.length : Int)) = false := decide_eq_false (by have := HL.out; omega)
              have ej : j = P.length := by have := HL.out; omega
              have K := Aside0.mk (show Blk wr go .i64 3 (iN (csL P rank)) from by
                have h := I.out.o
                rw [ej] at h
                have e : tabn P.length (fun s => (outF P rank P.length s : Int)) = iN (csL P rank) := by
                  unfold iN csL tabn
                  rw [List.map_map]; rfl
                rw [← e]; exact h)
              clear ej
              go_wp2
              go_ret
              exact ⟨go, rfl, I.out.lo, K.out, I.out.bl⟩
            | succ q =>
              obtain rfl : L = (j : Int) := HL.out.1
              have hjl : j < P.length := by have := HL.out; omega
              obtain ⟨ad, p, hA, hp, hpP, hpc, hbr, hrm⟩ := HRD.out j hjl
              subst hA
              have t1 : decide ((j : Int) < (P.length : Int)) = true := decide_eq_true (by omega)
              have t2 : decide (j < P.length) = true := decide_eq_true hjl
              have p1 : ((j : Int) < (P.length : Int)) = True := eq_true (by omega)
              have p2 : (j < P.length) = True := eq_true hjl
              have e1 : wrap64 ((j : Int) + 1) = ((j + 1 : Nat) : Int) := by have := HN.out; rw [w64 (by omega) (by omega)]; omega
              have k1 := (I.out.bl.cell (World.block_lt_of_cell? w _ hpc)).trans hpc
              obtain ⟨r, hr⟩ : ∃ r, rank p = r := ⟨_, rfl⟩
              rw [hr] at hbr hrm
              have hrm1 : r < m1 := by rw [← HN.out.2.2]; exact Nat.lt_succ_of_lt hrm
              have p3 : ((r : Int) < (m1 : Int)) = True := eq_true (Int.ofNat_lt.2 hrm1)
              have p4 : (r < m1) = True := eq_true hrm1
              have hsg : hd P.length b upB r + szT b j r = sg P rank j := by rw [← hbr, ← HB.out]; rfl
              have hsgn := sg_n (P := P) (rank := rank) hjl
              obtain ⟨sv, hsv⟩ : ∃ sv, sg P rank j = sv := ⟨_, rfl⟩
              rw [hsv] at hsg hsgn
              have p5 : ((sv : Int) < (P.length : Int)) = True := eq_true (Int.ofNat_lt.2 hsgn)
              have p6 : (sv < P.length) = True := eq_true hsgn
              have e3 : wrap64 ((sv : Int) + 1) = ((sv + 1 : Nat) : Int) := by have := HN.out; rw [w64 (by omega) (by omega)]; omega
              have HP := Aside0.mk (And.intro hpP (And.intro hbr (And.intro hr (And.intro hsv (And.intro hsg (And.intro hp hsgn))))))
              have HRM := Aside0.mk hrm1
              clear hjl hp hpP hpc hbr hrm hr hsv hsg hsgn hrm1
              go_wp2_with (first
                | ((with_reducible refine gate_dst (N := 61) rfl ?_); refine goesV_ (some 61) rfl rfl hf hname hb rfl rfl (#[.int .i64 (p : Int)] ++ cap) (by simp [go_sem]) ?_; refine (HR.out p HP.out.1 _ I.out.bl).mono ?_; rintro e w4 ⟨rfl, hB⟩; refine ⟨_, rfl, ?_⟩; rw [HP.out.2.2.1]; have I4 := Aside0.mk (show I2 w go g P.length m1 (fun s => (outF P rank j s : Int)) (fun r => ((hd P.length b upB r + szT b j r : Nat) : Int)) w4 from ⟨I.out.o.below hB, I.out.a.below hB, I.out.ne, I.out.lo, I.out.la, below_step I.out.bl hB⟩); have kf := I4.out.o.free sv; have kg := I4.out.co HP.out.2.2.2.2.2.2; have k3 : w4.cell? ⟨g, r, none⟩ = some (.int .i64 (sv : Int)) := (by have h := I4.out.ca HRM.out; rw [HP.out.2.2.2.2.1] at h; exact h); have I5 := Aside0.mk (I4.out.seto (fo' := fun s => (outF P rank (j + 1) s : Int)) sv (p : Int) (fun y hy => by rw [outF, HP.out.2.2.2.1, HP.out.2.2.2.2.2.1]; split <;> rfl)); have k5 : (w4.setCell ⟨go, sv, none⟩ (.int .i64 (p : Int))).cell? ⟨g, r, none⟩ = some (.int .i64 (sv : Int)) := (by have h := I5.out.ca HRM.out; rw [HP.out.2.2.2.2.1] at h; exact h); have kf5 := I5.out.a.free r; clear hB))
              go_roundg q
              case measure => omega
              case rel =>
                refine ⟨((j + 1 : Nat) : Int), j + 1, by first | rfl | simp only [e1] | (rw [e1]), ⟨rfl, by have := HL.out; omega⟩, ⟨?_⟩⟩
                try rw [e3]
                refine I5.out.seta r _ (fun y hy => ?_)
                obtain ⟨_, h2, _, h4, h5, _, _⟩ := HP.out
                clear e1 e3 p1 p2 p3 p4 p5 p6 t1 t2 kg kf k1 k3 k5 kf5
                rw [szT_succ, h2]
                by_cases e : y = r
                · rw [if_pos e, if_pos e.symm, e]; omega
                · rw [if_neg e, if_neg (Ne.symm e), Nat.add_zero]
end Go.Proofs.Ytfmgoealbaihjaa.Hd
/- suffix: doubled's function values, walked by hand. -/
namespace Go.Proofs.Ytfmgoealbaihjaa.Hd
open Go Go.RowKit Go.Proofs.YtfmgoealbaihjaaW.PrintWords Go.Proofs.YtfmgoealbaihjaaW.PrintLast Go.Proofs.YtfmgoealbaihjaaW.PrintMore Go.Proofs.Ytfmgoealbaihjaa.Hw Go.Proofs.Ytfmgoealbaihjaa.Com Go.Proofs.Ytfmgoealbaihjaa.Cn Go.Proofs.Ytfmgoealbaihjaa.P Go.Proofs.Ytfmgoealbaihjaa.Sais
attribute [local go_sem] max2_int min2_int max_two min_two max_three min_three max_four min_four
section
variable {P : Program} {ops : Array Oper} {Q : Exit → Act → World → Prop}
/-- A call of a function value in a region that draws. -/
theorem goesVd_ {oi : Oper} {N : Option Tmp} {a : Act} {w : World} {K : Act → World → Prop} {f : FuncId} {fn : Func} {x : Operand} {as_ : Array Operand} {ts : Array TypeId} {fst cap : Array Value} (hf : P.funcs[f]? = some fn) (hname : (fn.name == "runtime.NumGoroutine") = false) (hb : fn.body.isSome = true) (args : Array Value)
    (hw : Region.wanted oi (yielded ops a.tmps) = true) (hN : oi.dst = N) (hop : oi.op = .call { callee := .value x, args := as_, argTypes := ts }) (hx : a.eval x = .func (.func f) fst cap) (hargs : fst ++ as_.map a.eval ++ cap = args)
    (h : Calls P f args w fun e w' => ∃ v, e = .returned v ∧ K (a.put N v) w') : if Region.wanted oi (yielded ops a.tmps) = true then Oper.wp P oi a w K Q else K (a.put N undef) w := by
  refine call_ f args hw hN ?_ h
  have he := enters_ hf hname hb args w
  unfold execOp
  simp [hop, resolve, Deferred.ofValue, invoke, hx, hargs, he]
theorem alloc_var {rest : List Oper} {o : Oper} {a : Act} {W : World} (hgd : o.guard = none) {t : TypeId} {z : Value} {size bytes : Nat} {cs : Array Value} (ho : o.op = .alloc t) (hinfo : (P.info? t).map (fun i => (i.zero, i.size, i.bytes)) = some (some z, size, bytes)) (hc : z.cells = cs)
    (h : ∀ (g : Nat) (w1 : World), Aside0 (g = W.heap.size) → Aside0 (w1.heap[g]? = some (.cells cs t (0, 0))) → Aside0 (Below W.heap.size W w1) → wpList P ops Q rest (a.put o.dst (.pointer (some ⟨g, 0, none⟩))) w1) : wpList P ops Q (o :: rest) a W :=
  alloc_event hgd ho hinfo hc (h _ _ ⟨rfl⟩ ⟨blk_new W _⟩ ⟨below_alloc (Below.refl _ _) _⟩)
end
theorem info22 : (Try.prog.info? 22).map (fun i => (i.zero, i.size, i.bytes)) = some (some (.slice none 0 0), 1, 24) := by kernel_rfl
/-- The variables that function values read. -/
structure Env (gr gk n : Nat) (rk : Nat → Nat) (W : World) : Prop where
  r : W.heap[gr]? = some (.cells #[.slice (some ⟨gk, 0, none⟩) n n] 22 (0, 0))
  k : Blk W gk .i64 3 (tabn n (fun p => (rk p : Int)))
theorem Env.below {gr gk n : Nat} {rk : Nat → Nat} {W W1 : World} (h : Env gr gk n rk W) (hB : Below W.heap.size W W1) : Env gr gk n rk W1 := ⟨blk_below h.r hB, h.k.below hB⟩
theorem Env.old {gr gk n : Nat} {rk : Nat → Nat} {w W : World} (h : Env gr gk n rk w) (hB : Below w.heap.size w W) : Env gr gk n rk W := h.below hB
theorem Env.ck {gr gk n : Nat} {rk : Nat → Nat} {W : World} (h : Env gr gk n rk W) {p : Nat} (hp : p < n) : W.cell? ⟨gk, p, none⟩ = some (.int .i64 (rk p : Int)) := by
  have := h.k.cell p (by rw [tabn_length]; exact hp)
  rw [tabn_getD hp] at this
  exact this
set_option maxHeartbeats 2000000 in
set_option maxRecDepth 100000 in
theorem first1_ok (gr gk n p : Nat) (rk : Nat → Nat) (w : World) (h : Env gr gk n rk w) (hp : p < n) : Calls Try.prog 22 #[.int .i64 (p : Int), .pointer (some ⟨gr, 0, none⟩)] w fun e w' => e = .returned (.int .i64 (rk p : Int)) ∧ Below w.heap.size w w' := by
  have k1 : w.cell? ⟨gr, 0, none⟩ = some (.slice (some ⟨gk, 0, none⟩) n n) := (blk_cell h.r 0).trans rfl
  have k2 := h.ck hp
  have p1 : ((p : Int) < (n : Int)) = True := eq_true (by omega)
  have p2 : (p < n) = True := eq_true hp
  clear h hp
  go_enter Try.func22, Try.ntmps22
  go_wp2
  go_ret
  exact ⟨rfl, Below.refl _ _⟩
set_option maxHeartbeats 2000000 in
set_option maxRecDepth 100000 in
theorem first3_ok (gr gk n p : Nat) (rk : Nat → Nat) (w : World) (h : Env gr gk n rk w) (hp : p < n) : Calls Try.prog 24 #[.int .i64 (p : Int), .pointer (some ⟨gr, 0, none⟩)] w fun e w' => e = .returned (.int .i64 (rk p : Int)) ∧ Below w.heap.size w w' := by
  have k1 : w.cell? ⟨gr, 0, none⟩ = some (.slice (some ⟨gk, 0, none⟩) n n) := (blk_cell h.r 0).trans rfl
  have k2 := h.ck hp
  have p1 : ((p : Int) < (n : Int)) = True := eq_true (by omega)
  have p2 : (p < n) = True := eq_true hp
  clear h hp
  go_enter Try.func24, Try.ntmps24
  go_wp2
  go_ret
  exact ⟨rfl, Below.refl _ _⟩
/-- And the step. -/
structure Env2 (gs gn gr gk n h : Nat) (rk : Nat → Nat) (W : World) : Prop where
  e : Env gr gk n rk W
  s : W.heap[gs]? = some (.cells #[.int .i64 (h : Int)] 3 (0, 0))
  n : W.heap[gn]? = some (.cells #[.int .i64 (n : Int)] 3 (0, 0))
theorem Env2.below {gs gn gr gk n h : Nat} {rk : Nat → Nat} {W W1 : World} (hE : Env2 gs gn gr gk n h rk W) (hB : Below W.heap.size W W1) : Env2 gs gn gr gk n h rk W1 := ⟨hE.e.below hB, blk_below hE.s hB, blk_below hE.n hB⟩
set_option maxHeartbeats 4000000 in
set_option maxRecDepth 100000 in
theorem second_ok (gs gn gr gk h p : Nat) (x : List Nat) (rk : Nat → Nat) (w : World) (hE : Env2 gs gn gr gk x.length h rk w) (hp : p < x.length) (hh : h ≤ 1073741824) (hx : x.length ≤ 1073741824) :
    Calls Try.prog 23 #[.int .i64 (p : Int), .pointer (some ⟨gs, 0, none⟩), .pointer (some ⟨gn, 0, none⟩), .pointer (some ⟨gr, 0, none⟩)] w fun e w' => e = .returned (.int .i64 (snd2 x h rk p : Int)) ∧ Below w.heap.size w w' := by
  obtain ⟨n, hn⟩ : ∃ n, x.length = n := ⟨_, rfl⟩
  have hs2 : snd2 x h rk p = if n ≤ p + h then 0 else rk (p + h) := by rw [← hn]; rfl
  rw [hn] at hE hp hx
  have k1 : w.cell? ⟨gr, 0, none⟩ = some (.slice (some ⟨gk, 0, none⟩) n n) := (blk_cell hE.e.r 0).trans rfl
  have k2 : w.cell? ⟨gs, 0, none⟩ = some (.int .i64 (h : Int)) := (blk_cell hE.s 0).trans rfl
  have k3 : w.cell? ⟨gn, 0, none⟩ = some (.int .i64 (n : Int)) := (blk_cell hE.n 0).trans rfl
  have e1 : wrap64 ((n : Int) - (p : Int)) = ((n - p : Nat) : Int) := by rw [w64 (by omega) (by omega)]; omega
  obtain ⟨d, hd⟩ : ∃ d, n - p = d := ⟨_, rfl⟩
  obtain ⟨d1, hd1⟩ : ∃ d1, d - 1 = d1 := ⟨_, rfl⟩
  rw [hd] at e1
  have e2 : wrap64 ((d : Int) - 1) = (d1 : Int) := by rw [w64 (by omega) (by omega)]; omega
  by_cases hc : n ≤ p + h
  · have t1 : decide ((d1 : Int) < (h : Int)) = true := decide_eq_true (by omega)
    have t2 : decide (d1 < h) = true := decide_eq_true (by omega)
    rw [if_pos hc] at hs2
    rw [hs2]
    clear hE hp hx hh hd hd1 hc hs2 hn
    go_enter Try.func23, Try.ntmps23
    go_wp2
    go_ret
    exact ⟨rfl, Below.refl _ _⟩
  · have t1 : decide ((d1 : Int) < (h : Int)) = false := decide_eq_false (by omega)
    have t2 : decide (d1 < h) = false := decide_eq_false (by omega)
    obtain ⟨q, hq⟩ : ∃ q, p + h = q := ⟨_, rfl⟩
    rw [if_neg hc, hq] at hs2
    rw [hs2]
    have hqn : q < n := by omega
    have e3 : wrap64 ((p : Int) + (h : Int)) = (q : Int) := by rw [w64 (by omega) (by omega)]; omega
    have k4 := hE.e.ck hqn
    have p1 : ((q : Int) < (n : Int)) = True := eq_true (Int.ofNat_lt.2 hqn)
    have p2 : (q < n) = True := eq_true hqn
    clear hE hp hx hh hd hd1 hc hs2 hn hq hqn
    go_enter Try.func23, Try.ntmps23
    go_wp2
    go_ret
    exact ⟨rfl, Below.refl _ _⟩
theorem rank1 {gr gk n : Nat} {rk : Nat → Nat} {w : World} (h : Env gr gk n rk w) {P : List Nat} (hP : ∀ p ∈ P, p < n) : RankV w 22 #[.pointer (some ⟨gr, 0, none⟩)] P rk :=
  fun p hp w' hB => first1_ok gr gk n p rk w' (h.below hB) (hP p hp)
theorem rank3 {gr gk n : Nat} {rk : Nat → Nat} {w : World} (h : Env gr gk n rk w) {P : List Nat} (hP : ∀ p ∈ P, p < n) : RankV w 24 #[.pointer (some ⟨gr, 0, none⟩)] P rk :=
  fun p hp w' hB => first3_ok gr gk n p rk w' (h.below hB) (hP p hp)
theorem rank2 {gs gn gr gk h : Nat} {x : List Nat} {rk : Nat → Nat} {w : World} (hE : Env2 gs gn gr gk x.length h rk w) (hh : h ≤ 1073741824) (hx : x.length ≤ 1073741824) {P : List Nat} (hP : ∀ p ∈ P, p < x.length) :
    RankV w 23 #[.pointer (some ⟨gs, 0, none⟩), .pointer (some ⟨gn, 0, none⟩), .pointer (some ⟨gr, 0, none⟩)] P (snd2 x h rk) :=
  fun p hp w' hB => second_ok gs gn gr gk h p x rk w' (hE.below hB) (hP p hp) hh hx
end Go.Proofs.Ytfmgoealbaihjaa.Hd
