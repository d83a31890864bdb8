/- suffix: counted, walked by hand. -/
import Derived.Test.YtdifgiceallpiaaDoorZHSa7
import Derived.Test.YtdifgiceallpiaaDoorZSaDbl
set_option linter.unusedVariables false
set_option linter.unusedSimpArgs false
set_option linter.unusedSectionVars false
namespace Go.Proofs.YtdifgiceallpiaaDoor.Hd
open Go Go.RowKit Go.Proofs.YtdifgiceallpiaaDoorW.PrintWords Go.Proofs.YtdifgiceallpiaaDoorW.PrintLast Go.Proofs.YtdifgiceallpiaaDoorW.PrintMore Go.Proofs.YtdifgiceallpiaaDoor.Hw Go.Proofs.YtdifgiceallpiaaDoor.Com Go.Proofs.YtdifgiceallpiaaDoor.Cn Go.Proofs.YtdifgiceallpiaaDoor.P Go.Proofs.YtdifgiceallpiaaDoor.Sais
attribute [local go_sem] max2_int min2_int max_two min_two max_three min_three max_four min_four
/-- A function value that tells ranks. -/
def RankV (w : World) (f : FuncId) (cap : Array Value) (P : List Nat) (rank : Nat → Nat) : Prop :=
  ∀ p, p ∈ P → ∀ w', Below w.heap.size w w' → Calls Tryd.prog f (#[.int .i64 (p : Int)] ++ cap) w' fun e w'' => e = .returned (.int .i64 (rank p : Int)) ∧ Below w'.heap.size w' w''
set_option maxHeartbeats 16000000 in
set_option maxRecDepth 100000 in
theorem counted_ok (A0 : Option Addr) (c0 many : Nat) (P : List Nat) (rank : Nat → Nat) (f : FuncId) (fn : Func) (cap : Array Value) (w : World) (hC : Kd.C (Kd.int .i64) w A0 P.length (iN P)) (hr : ∀ p, p ∈ P → rank p < many) (hR : RankV w f cap P rank)
    (hf : Tryd.prog.funcs[f]? = some fn) (hname : (fn.name == "runtime.NumGoroutine") = false) (hb : fn.body.isSome = true) (hl : P.length ≤ 1073741824) (hm : many ≤ 1073741824) :
    Calls Tryd.prog 68 #[.slice A0 P.length c0, .int .i64 (many : Int), .func (.func f) #[] cap] w fun e w' => ∃ g : Nat, e = .returned (.slice (some ⟨g, 0, none⟩) P.length P.length) ∧ w.heap.size ≤ g ∧ Blk w' g .i64 3 (iN (csL P rank)) ∧ Below w.heap.size w w' := by
  obtain ⟨m1, hm1⟩ : ∃ m1, many + 1 = m1 := ⟨_, rfl⟩
  have e0 : wrap64 ((many : Int) + 1) = (m1 : Int) := by rw [w64 (by omega) (by omega)]; omega
  have HN := Aside0.mk (And.intro hl (And.intro hm hm1))
  have HR := Aside0.mk hR
  have HC := Aside0.mk hC
  have HRK := Aside0.mk hr
  obtain ⟨b, hbP⟩ : ∃ b, bP P rank = b := ⟨_, rfl⟩
  have HB := Aside0.mk hbP
  have hrd : ∀ j, j < P.length → ∃ (ad : Addr) (p : Nat), A0 = some ad ∧ P.getD j 0 = p ∧ p ∈ P ∧ w.cell? (ad.add j) = some (.int .i64 (p : Int)) ∧ b j = rank p ∧ rank p < many := by
    intro j hj
    obtain ⟨ad, h1, h2⟩ := c_cell hC hj rfl
    have hmem : P.getD j 0 ∈ P := by rw [gD hj]; exact List.getElem_mem hj
    exact ⟨ad, _, h1, rfl, hmem, h2, by rw [← hbP]; rfl, hr _ hmem⟩
  have HRD := Aside0.mk hrd
  clear hC hr hR hl hm hm1 hrd hbP
  go_enter Tryd.func68, Tryd.ntmps68
  go_wp2_with (first
    | ((with_reducible refine gate_dst (N := 17) rfl ?_); refine make_blk rfl rfl m1 (congrArg (Value.int .i64) e0) (congrArg (Value.int .i64) e0) Tryd.underlying29 .i64 info3 (by decide) (by have := HN.out; omega) ?_; intro g w2 G2 B2 C2))
  have B2' := Aside0.mk (show Blk w2 g .i64 3 (tabn m1 (fun r => if r = 0 then (0 : Int) else (szT b 0 (r - 1) : Int))) from by
    have := B2.out
    rw [tabn_zero] at this
    refine (congrArg (Blk _ g .i64 3) (tabn_congr (fun r _ => ?_))).mp this
    by_cases h : r = 0
    · rw [if_pos h]
    · rw [if_neg h]; rfl)
  clear B2 e0
  go_loopg [20] P.length (fun q v20 w' => ∃ (L : Int) (j : Nat), v20 = .int .i64 L ∧ Aside0 (L = (j : Int) ∧ j + q = P.length) ∧ Aside0 (Blk w' g .i64 3 (tabn m1 (fun r => if r = 0 then (0 : Int) else (szT b j (r - 1) : Int)))) ∧ Aside0 (Below w.heap.size w w'))
  case atStart => exact ⟨0, 0, rfl, ⟨rfl, by omega⟩, B2', C2⟩
  case round =>
    clear B2' C2
    obtain ⟨L, j, rfl, HL, B, C⟩ := hrel
    cases gk with
    | succ q =>
      obtain rfl : L = (j : Int) := HL.out.1
      have hjl : j < P.length := by have := HL.out; omega
      obtain ⟨ad, p, hA, hp, hpP, hpc, hbr, hrm⟩ := HRD.out j hjl
      subst hA
      have t1 : decide ((j : Int) < (P.length : Int)) = true := decide_eq_true (by omega)
      have t2 : decide (j < P.length) = true := decide_eq_true hjl
      have p1 : ((j : Int) < (P.length : Int)) = True := eq_true (by omega)
      have p2 : (j < P.length) = True := eq_true hjl
      have e1 : wrap64 ((j : Int) + 1) = ((j + 1 : Nat) : Int) := by have := HN.out; rw [w64 (by omega) (by omega)]; omega
      have k1 := (C.out.cell (World.block_lt_of_cell? w _ hpc)).trans hpc
      obtain ⟨r, hr⟩ : ∃ r, rank p = r := ⟨_, rfl⟩
      obtain ⟨r1, hr1⟩ : ∃ r1, r + 1 = r1 := ⟨_, rfl⟩
      rw [hr] at hbr hrm
      have e2 : wrap64 ((r : Int) + 1) = (r1 : Int) := by have := HN.out; rw [w64 (by omega) (by omega)]; omega
      have hr1m : r1 < m1 := by rw [← hr1, ← HN.out.2.2]; exact Nat.succ_lt_succ hrm
      have p3 : ((r1 : Int) < (m1 : Int)) = True := eq_true (Int.ofNat_lt.2 hr1m)
      have p4 : (r1 < m1) = True := eq_true hr1m
      obtain ⟨sv, hsv⟩ : ∃ sv, szT b j r = sv := ⟨_, rfl⟩
      have hsl := szT_le b j r
      have e3 : wrap64 ((sv : Int) + 1) = ((sv + 1 : Nat) : Int) := by have := HN.out; rw [w64 (by omega) (by omega)]; omega
      have HP := Aside0.mk (And.intro hpP (And.intro hbr (And.intro hr (And.intro hr1 hsv))))
      clear hjl hp hpP hpc hbr hrm hr hr1 hsv hsl hr1m
      go_wp2_with (first
        | ((with_reducible refine gate_dst (N := 27) rfl ?_); refine goesV_ (some 27) rfl rfl hf hname hb rfl rfl (#[.int .i64 (p : Int)] ++ cap) (by simp [go_sem]) ?_; refine (HR.out p HP.out.1 _ C.out).mono ?_; rintro e w4 ⟨rfl, hB⟩; refine ⟨_, rfl, ?_⟩; rw [HP.out.2.2.1]; have C4 := Aside0.mk (below_step C.out hB); have B4 := Aside0.mk (B.out.below hB); have kf := B4.out.free r1; have kg : w4.cell? ⟨g, r1, none⟩ = some (.int .i64 (sv : Int)) := (by have h := B4.out.cell r1 (by rw [tabn_length]; exact of_eq_true p4); rw [tabn_getD (of_eq_true p4), if_neg (by have := HP.out; omega), show r1 - 1 = r from by have := HP.out; omega, HP.out.2.2.2.2] at h; exact h); clear hB))
      go_roundg q
      case measure => omega
      case rel =>
        refine ⟨((j + 1 : Nat) : Int), j + 1, by first | rfl | simp only [e1] | (rw [e1]), ⟨rfl, by have := HL.out; omega⟩, ⟨?_⟩, ⟨below_set C4.out G2.out⟩⟩
        try rw [e3]
        refine blk_step B4.out (fun y hy => ?_)
        obtain ⟨_, h2, _, h4, h5⟩ := HP.out
        clear e1 e2 e3 p1 p2 p3 p4 t1 t2 kg kf k1
        by_cases e : y = r1
        · have e9 : szT b (j + 1) (y - 1) = sv + 1 := by rw [szT_succ, h2, if_pos (by omega), e, show r1 - 1 = r from by omega, h5]
          rw [if_pos e, if_neg (by omega), e9]
          first | rfl | omega
        · rw [if_neg e]
          by_cases h0 : y = 0
          · rw [if_pos h0, if_pos h0]
          · rw [if_neg h0, if_neg h0, szT_succ, h2, if_neg (by omega), Nat.add_zero]
    | zero =>
      have t1 : decide (L < (P.length : Int)) = false := decide_eq_false (by have := HL.out; omega)
      have B5 := Aside0.mk (show Blk wr g .i64 3 (tabn m1 (fun r => if r < 1 then (hd P.length b upB r : Int) else (szT b P.length (r - 1) : Int))) from by
        refine (congrArg (Blk _ g .i64 3) (tabn_congr (fun r _ => ?_))).mp B.out
        rw [show j = P.length from by have := HL.out; omega]
        by_cases h0 : r = 0
        · rw [if_pos h0, if_pos (by omega), h0, hd0]; rfl
        · rw [if_neg h0, if_neg (by omega)])
      clear B HL
      go_wp2
      go_loopg [10] many (fun q v10 w' => ∃ i : Nat, v10 = .int .i64 (i : Int) ∧ Aside0 (i + q = many + 1 ∧ 1 ≤ i) ∧ Aside0 (Blk w' g .i64 3 (tabn m1 (fun r => if r < i then (hd P.length b upB r : Int) else (szT b P.length (r - 1) : Int)))) ∧ Aside0 (Below w.heap.size w w'))
      case atStart => exact ⟨1, rfl, ⟨by omega, Nat.le_refl _⟩, B5, C⟩
      case round =>
        clear B5 C t1
        obtain ⟨i, rfl, HL, B, C⟩ := hrel
        cases gk with
        | succ q =>
          obtain ⟨k, hk⟩ : ∃ k, i = k + 1 := ⟨i - 1, by have := HL.out; omega⟩
          have him : i < m1 := by have := HL.out; have := HN.out; omega
          have t1 : decide ((i : Int) ≤ (many : Int)) = true := decide_eq_true (by have := HL.out; omega)
          have t2 : decide (i ≤ many) = true := decide_eq_true (by have := HL.out; omega)
          have e1 : wrap64 ((i : Int) + 1) = ((i + 1 : Nat) : Int) := by have := HN.out; have := HL.out; rw [w64 (by omega) (by omega)]; omega
          have e2 : wrap64 ((i : Int) - 1) = (k : Int) := by have := HN.out; have := HL.out; rw [w64 (by omega) (by omega)]; omega
          have p1 : ((i : Int) < (m1 : Int)) = True := eq_true (by omega)
          have p2 : (i < m1) = True := eq_true him
          have p3 : ((k : Int) < (m1 : Int)) = True := eq_true (by omega)
          have p4 : (k < m1) = True := eq_true (by omega)
          have k1 := B.out.cell i (by rw [tabn_length]; exact him)
          rw [tabn_getD him, if_neg (Nat.lt_irrefl i), show i - 1 = k from by omega] at k1
          have k2 := B.out.cell k (by rw [tabn_length]; omega)
          rw [tabn_getD (by omega), if_pos (by omega)] at k2
          have hsum := hd_succ P.length b k
          have hle := hd_le P.length b (k + 1)
          obtain ⟨ci, hci⟩ : ∃ ci, szT b P.length k = ci := ⟨_, rfl⟩
          obtain ⟨ck, hck⟩ : ∃ ck, hd P.length b upB k = ck := ⟨_, rfl⟩
          rw [hci] at k1
          rw [hck] at k2
          have hsz : sz P.length b k = ci := hci
          rw [hck, hsz] at hsum
          have EW := Aside0.mk (show wrap64 ((ci : Int) + (ck : Int)) = (hd P.length b upB i : Int) from by
            have := HN.out
            rw [hk]
            rw [w64 (by omega) (by omega)]; omega)
          have HK := Aside0.mk hk
          clear hk him hsum hle hci hck hsz
          go_wp2
          refine start_ (n := 12) (S := fun w' => w'.cell? ⟨g, i, none⟩ = some (.int .i64 (ci : Int)) ∧ w'.cell? ⟨g, k, none⟩ = some (.int .i64 (ck : Int))) (ds := [11]) #[false, false, false, false, false, false, false, false, false, false, false, false] (by kernel_rfl) rfl rfl ⟨k1, k2⟩ (fun hHeld => ?_)
          refine pure_ (i := 0) (N := some 39) (v := ?_) (a' := ?_) #[true, false, false, false, false, false, false, false, false, false, false, false] rfl rfl (by kernel_rfl) (fun _ _ _ h => h) (Or.inl ⟨by rfl, ?_⟩) ?_ ?_
          rotate_left
          · intro w'
            go_simp
            with_reducible rfl
          rotate_left
          · simp only [Act.put, List.setIfInBounds_toArray, List.set_cons_zero, List.set_cons_succ, i64_w, i32_w]
            rfl
          refine pure_ (i := 1) (N := some 40) (v := ?_) (a' := ?_) #[true, true, false, false, false, false, false, false, false, false, false, false] rfl rfl (by kernel_rfl) (fun _ _ _ h => h) (Or.inl ⟨by rfl, ?_⟩) ?_ ?_
          rotate_left
          · intro w'
            go_simp
            with_reducible rfl
          rotate_left
          · simp only [Act.put, List.setIfInBounds_toArray, List.set_cons_zero, List.set_cons_succ, i64_w, i32_w]
            rfl
          refine pure_ (i := 2) (N := some 41) (v := ?_) (a' := ?_) #[true, true, true, false, false, false, false, false, false, false, false, false] rfl rfl (by kernel_rfl) (fun _ _ _ h => h) (Or.inl ⟨by rfl, ?_⟩) ?_ ?_
          rotate_left
          · intro w'
            go_simp
            with_reducible rfl
          rotate_left
          · simp only [Act.put, List.setIfInBounds_toArray, List.set_cons_zero, List.set_cons_succ, i64_w, i32_w]
            rfl
          refine pure_ (i := 4) (N := some 43) (v := ?_) (a' := ?_) #[true, true, true, false, true, false, false, false, false, false, false, false] rfl rfl (by kernel_rfl) (fun _ _ _ h => h) (Or.inl ⟨by rfl, ?_⟩) ?_ ?_
          rotate_left
          · intro w'
            go_simp
            with_reducible rfl
          rotate_left
          · simp only [Act.put, List.setIfInBounds_toArray, List.set_cons_zero, List.set_cons_succ, i64_w, i32_w]
            rfl
          refine pure_ (i := 5) (N := some 44) (v := ?_) (a' := ?_) #[true, true, true, false, true, true, false, false, false, false, false, false] rfl rfl (by kernel_rfl) (fun _ _ _ h => h) (Or.inl ⟨by rfl, ?_⟩) ?_ ?_
          rotate_left
          · intro w'
            go_simp
            with_reducible rfl
          rotate_left
          · simp only [Act.put, List.setIfInBounds_toArray, List.set_cons_zero, List.set_cons_succ, i64_w, i32_w]
            rfl
          refine pure_ (i := 6) (N := some 45) (v := ?_) (a' := ?_) #[true, true, true, false, true, true, true, false, false, false, false, false] rfl rfl (by kernel_rfl) (fun _ _ _ h => h) (Or.inl ⟨by rfl, ?_⟩) ?_ ?_
          rotate_left
          · intro w'
            go_simp
            with_reducible rfl
          rotate_left
          · simp only [Act.put, List.setIfInBounds_toArray, List.set_cons_zero, List.set_cons_succ, i64_w, i32_w]
            rfl
          refine pure_ (i := 7) (N := some 46) (v := ?_) (a' := ?_) #[true, true, true, false, true, true, true, true, false, false, false, false] rfl rfl (by kernel_rfl) (fun _ _ _ h => h) (Or.inl ⟨by rfl, ?_⟩) ?_ ?_
          rotate_left
          · intro w'
            go_simp
            with_reducible rfl
          rotate_left
          · simp only [Act.put, List.setIfInBounds_toArray, List.set_cons_zero, List.set_cons_succ, i64_w, i32_w]
            rfl
          refine take_ (i := 3) (N := some 42) (v := ?_) (a' := ?_) #[true, true, true, true, true, true, true, true, false, false, false, false] rfl rfl (by kernel_rfl) (fun _ _ _ h => h) (Or.inl ⟨by rfl, ?_⟩) hHeld ?_ ?_
          rotate_left
          · rintro w' ⟨s0, s1⟩
            go_simp
            with_reducible rfl
          rotate_left
          · simp only [Act.put, List.setIfInBounds_toArray, List.set_cons_zero, List.set_cons_succ, i64_w, i32_w]
            rfl
          refine take_ (i := 8) (N := some 47) (v := ?_) (a' := ?_) #[true, true, true, true, true, true, true, true, true, false, false, false] rfl rfl (by kernel_rfl) (fun _ _ _ h => h) (Or.inl ⟨by rfl, ?_⟩) hHeld ?_ ?_
          rotate_left
          · rintro w' ⟨s0, s1⟩
            go_simp
            with_reducible rfl
          rotate_left
          · simp only [Act.put, List.setIfInBounds_toArray, List.set_cons_zero, List.set_cons_succ, i64_w, i32_w]
            rfl
          refine pure_ (i := 9) (N := some 48) (v := ?_) (a' := ?_) #[true, true, true, true, true, true, true, true, true, true, false, false] rfl rfl (by kernel_rfl) (fun _ _ _ h => h) (Or.inl ⟨by rfl, ?_⟩) ?_ ?_
          rotate_left
          · intro w'
            go_simp
            with_reducible rfl
          rotate_left
          · simp only [Act.put, List.setIfInBounds_toArray, List.set_cons_zero, List.set_cons_succ, i64_w, i32_w]
            rfl
          refine pure_ (i := 10) (N := some 49) (v := ?_) (a' := ?_) #[true, true, true, true, true, true, true, true, true, true, true, false] rfl rfl (by kernel_rfl) (fun _ _ _ h => h) (Or.inl ⟨by rfl, ?_⟩) ?_ ?_
          rotate_left
          · intro w'
            go_simp
            with_reducible rfl
          rotate_left
          · simp only [Act.put, List.setIfInBounds_toArray, List.set_cons_zero, List.set_cons_succ, i64_w, i32_w]
            rfl
          refine last_ (i := 11) (N := none) #[true, true, true, true, true, true, true, true, true, true, true, true] rfl rfl (by kernel_rfl) (by decide) (fun K hK => ?_)
          have hfz : wr.drew.frozen? ⟨g, i, none⟩ = false := B.out.free i
          have hcz : wr.drew.cell? ⟨g, i, none⟩ = some (.int .i64 (ci : Int)) := k1
          refine skip_ (w1 := ?_) (by rfl) rfl ?_ ?_
          rotate_left
          · go_simp
            rfl
          refine hK.out _ _ ?_
          clear hK K
          refine done_ (by kernel_rfl) ?_
          clear hHeld k1 k2 hfz hcz
          go_wp2
          go_roundg q
          case measure => omega
          case rel =>
            refine ⟨i + 1, by first | rfl | simp only [e1] | (rw [e1]), ⟨by have := HL.out; omega, by omega⟩, ⟨?_⟩, ⟨below_set (below_drew C.out) G2.out⟩⟩
            rw [EW.out]
            refine blk_step B.out.drew (fun y hy => ?_)
            by_cases e : y = i
            · rw [if_pos e, if_pos (by omega), e]
            · rw [if_neg e]
              by_cases h2 : y < i
              · rw [if_pos h2, if_pos (by omega)]
              · rw [if_neg h2, if_neg (by omega)]
        | zero =>
          have t1 : decide ((i : Int) ≤ (many : Int)) = false := decide_eq_false (by have := HL.out; omega)
          have t2 : decide (i ≤ many) = false := decide_eq_false (by have := HL.out; omega)
          have B5 := Aside0.mk (show Blk wr g .i64 3 (tabn m1 (fun r => ((hd P.length b upB r + szT b 0 r : Nat) : Int))) from by
            refine (congrArg (Blk _ g .i64 3) (tabn_congr (fun r hr => ?_))).mp B.out
            rw [if_pos (by have := HL.out; have := HN.out; omega)]; rfl)
          clear B HL
          go_wp2_with (first
            | ((with_reducible refine gate_dst (N := 52) rfl ?_); refine make_blk rfl rfl P.length rfl rfl Tryd.underlying29 .i64 info3 (by decide) (by have := HN.out; omega) ?_; intro go w6 G6 B6 C6; have I6 := Aside0.mk (show I2 w go g P.length m1 (fun s => (outF P rank 0 s : Int)) (fun r => ((hd P.length b upB r + szT b 0 r : Nat) : Int)) w6 from ⟨by have := B6.out; rw [tabn_zero] at this; exact this, B5.out.below C6.out, by have := B5.out.lt; have := G6.out; omega, Nat.le_trans C.out.size G6.out, G2.out, below_step C.out C6.out⟩)))
          clear B5 C t1 t2 B6 C6
          go_loopg [55] P.length (fun q v55 w' => ∃ (L : Int) (j : Nat), v55 = .int .i64 L ∧ Aside0 (L = (j : Int) ∧ j + q = P.length) ∧ Aside0 (I2 w go g P.length m1 (fun s => (outF P rank j s : Int)) (fun r => ((hd P.length b upB r + szT b j r : Nat) : Int)) w'))
          case atStart => exact ⟨0, 0, rfl, ⟨rfl, by omega⟩, I6⟩
          case round =>
            clear I6
            obtain ⟨L, j, rfl, HL, I⟩ := hrel
            cases gk with
            | zero =>
              have t1 : decide (L < (P.length : Int)) = false := decide_eq_false (by have := HL.out; omega)
              have ej : j = P.length := by have := HL.out; omega
              have K := Aside0.mk (show Blk wr go .i64 3 (iN (csL P rank)) from by
                have h := I.out.o
                rw [ej] at h
                have e : tabn P.length (fun s => (outF P rank P.length s : Int)) = iN (csL P rank) := by
                  unfold iN csL tabn
                  rw [List.map_map]; rfl
                rw [← e]; exact h)
              clear ej
              go_wp2
              go_ret
              exact ⟨go, rfl, I.out.lo, K.out, I.out.bl⟩
            | succ q =>
              obtain rfl : L = (j : Int) := HL.out.1
              have hjl : j < P.length := by have := HL.out; omega
              obtain ⟨ad, p, hA, hp, hpP, hpc, hbr, hrm⟩ := HRD.out j hjl
              subst hA
              have t1 : decide ((j : Int) < (P.length : Int)) = true := decide_eq_true (by omega)
              have t2 : decide (j < P.length) = true := decide_eq_true hjl
              have p1 : ((j : Int) < (P.length : Int)) = True := eq_true (by omega)
              have p2 : (j < P.length) = True := eq_true hjl
              have e1 : wrap64 ((j : Int) + 1) = ((j + 1 : Nat) : Int) := by have := HN.out; rw [w64 (by omega) (by omega)]; omega
              have k1 := (I.out.bl.cell (World.block_lt_of_cell? w _ hpc)).trans hpc
              obtain ⟨r, hr⟩ : ∃ r, rank p = r := ⟨_, rfl⟩
              rw [hr] at hbr hrm
              have hrm1 : r < m1 := by rw [← HN.out.2.2]; exact Nat.lt_succ_of_lt hrm
              have p3 : ((r : Int) < (m1 : Int)) = True := eq_true (Int.ofNat_lt.2 hrm1)
              have p4 : (r < m1) = True := eq_true hrm1
              have hsg : hd P.length b upB r + szT b j r = sg P rank j := by rw [← hbr, ← HB.out]; rfl
              have hsgn := sg_n (P := P) (rank := rank) hjl
              obtain ⟨sv, hsv⟩ : ∃ sv, sg P rank j = sv := ⟨_, rfl⟩
              rw [hsv] at hsg hsgn
              have p5 : ((sv : Int) < (P.length : Int)) = True := eq_true (Int.ofNat_lt.2 hsgn)
              have p6 : (sv < P.length) = True := eq_true hsgn
              have e3 : wrap64 ((sv : Int) + 1) = ((sv + 1 : Nat) : Int) := by have := HN.out; rw [w64 (by omega) (by omega)]; omega
              have HP := Aside0.mk (And.intro hpP (And.intro hbr (And.intro hr (And.intro hsv (And.intro hsg (And.intro hp hsgn))))))
              have HRM := Aside0.mk hrm1
              clear hjl hp hpP hpc hbr hrm hr hsv hsg hsgn hrm1
              go_wp2_with (first
                | ((with_reducible refine gate_dst (N := 61) rfl ?_); refine goesV_ (some 61) rfl rfl hf hname hb rfl rfl (#[.int .i64 (p : Int)] ++ cap) (by simp [go_sem]) ?_; refine (HR.out p HP.out.1 _ I.out.bl).mono ?_; rintro e w4 ⟨rfl, hB⟩; refine ⟨_, rfl, ?_⟩; rw [HP.out.2.2.1]; have I4 := Aside0.mk (show I2 w go g P.length m1 (fun s => (outF P rank j s : Int)) (fun r => ((hd P.length b upB r + szT b j r : Nat) : Int)) w4 from ⟨I.out.o.below hB, I.out.a.below hB, I.out.ne, I.out.lo, I.out.la, below_step I.out.bl hB⟩); have kf := I4.out.o.free sv; have kg := I4.out.co HP.out.2.2.2.2.2.2; have k3 : w4.cell? ⟨g, r, none⟩ = some (.int .i64 (sv : Int)) := (by have h := I4.out.ca HRM.out; rw [HP.out.2.2.2.2.1] at h; exact h); have I5 := Aside0.mk (I4.out.seto (fo' := fun s => (outF P rank (j + 1) s : Int)) sv (p : Int) (fun y hy => by rw [outF, HP.out.2.2.2.1, HP.out.2.2.2.2.2.1]; split <;> rfl)); have k5 : (w4.setCell ⟨go, sv, none⟩ (.int .i64 (p : Int))).cell? ⟨g, r, none⟩ = some (.int .i64 (sv : Int)) := (by have h := I5.out.ca HRM.out; rw [HP.out.2.2.2.2.1] at h; exact h); have kf5 := I5.out.a.free r; clear hB))
              go_roundg q
              case measure => omega
              case rel =>
                refine ⟨((j + 1 : Nat) : Int), j + 1, by first | rfl | simp only [e1] | (rw [e1]), ⟨rfl, by have := HL.out; omega⟩, ⟨?_⟩⟩
                try rw [e3]
                refine I5.out.seta r _ (fun y hy => ?_)
                obtain ⟨_, h2, _, h4, h5, _, _⟩ := HP.out
                clear e1 e3 p1 p2 p3 p4 p5 p6 t1 t2 kg kf k1 k3 k5 kf5
                rw [szT_succ, h2]
                by_cases e : y = r
                · rw [if_pos e, if_pos e.symm, e]; omega
                · rw [if_neg e, if_neg (Ne.symm e), Nat.add_zero]
end Go.Proofs.YtdifgiceallpiaaDoor.Hd
