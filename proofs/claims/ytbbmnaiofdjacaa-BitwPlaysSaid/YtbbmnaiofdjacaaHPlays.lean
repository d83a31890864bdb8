/- BitwPlays, walked by hand. -/
import Derived.Test.YtbbmnaiofdjacaaHPlays1
set_option linter.unusedVariables false
set_option linter.unusedSimpArgs false
set_option linter.unusedSectionVars false
namespace Go.Proofs.Ytbbmnaiofdjacaa.P
open Go.RowKit Go.Proofs.YtbbmnaiofdjacaaW.PrintWords Go.Proofs.YtbbmnaiofdjacaaW.PrintLast Go.Proofs.YtbbmnaiofdjacaaW.PrintMore Go.Proofs.Ytbbmnaiofdjacaa.Hw Go.Proofs.Ytbbmnaiofdjacaa.Com Go.Proofs.Ytbbmnaiofdjacaa.Hd
attribute [local go_sem] max2_int min2_int max_two min_two max_three min_three max_four min_four
set_option maxHeartbeats 8000000 in
set_option maxRecDepth 100000 in
theorem gladstonelaw01_BitwPlays.calls (A0 : Option Addr) (c0 : Nat) (l : List Dd) (r : Bool) (w : World) (hl : ReadsRow DK 3 w A0 l.length l) (hc : l.length ≤ c0) (hr : (∀ p ∈ l, 0 ≤ p.2.2 ∧ p.2.2 < 18446744073709551616) ∧ true = r) :
    Calls Try.prog 3 #[.slice A0 l.length c0] w fun e w' => e = .returned (.bool r) ∧ Below w.heap.size w w' := by
  obtain ⟨hx, rfl⟩ := hr
  have HL := Aside0.mk hl
  have HX := Aside0.mk hx
  clear hl hc hx
  by_cases hn : l.length > 100
  · have t1 : decide (100 < (l.length : Int)) = true := decide_eq_true (by omega)
    have t2 : decide (100 < l.length) = true := decide_eq_true hn
    clear hn
    go_enter Try.func3, Try.ntmps3
    go_wp2_with (first
      | (go_at_call 6; refine (gladstonelaw01_awake.calls _).mono ?_; rintro e w1 ⟨rfl, hB⟩; have B1 := Aside0.mk hB; clear hB))
    go_ret
    exact ⟨rfl, B1.out⟩
  · have t1 : decide (100 < (l.length : Int)) = false := decide_eq_false (by omega)
    have t2 : decide (100 < l.length) = false := decide_eq_false hn
    have HN := Aside0.mk (Nat.le_of_not_lt hn)
    clear hn
    go_enter Try.func3, Try.ntmps3
    go_wp2_with (first
      | (go_at_call 7; refine (New_ok w).mono ?_; rintro e w1 ⟨g, rfl, hW, hg, hB⟩; have W1 := Aside0.mk (show Wb w1 w.heap.size g (.slice none 0 0) [] from ⟨[], 0, 0, by simp, by omega, by simp, rfl, hW⟩); have G1 := Aside0.mk hg; have B1 := Aside0.mk hB; clear hW hg hB))
    clear t1 t2
    go_loopg [4, 5] l.length (fun q v4 v5 w' => ∃ (L : Int) (m : Nat) (x : List Bool) (v : Value) (A : Option Addr) (c : Nat), v4 = .slice A x.length c ∧ v5 = .int .i64 L ∧ Aside0 (L = (m : Int) ∧ m + q = l.length ∧ x.length ≤ 64 * m) ∧ Aside0 (Wb w' w.heap.size g v x) ∧ Aside0 (Kd.R Kd.bool 4 w' w.heap.size (fun _ => True) (.slice A x.length c) x) ∧ Aside0 (Below w.heap.size w w'))
    case atStart => exact ⟨0, 0, [], _, none, 0, rfl, rfl, ⟨rfl, by omega, by simp⟩, W1, ⟨Kd.R_nil _ _ _ _ _⟩, B1⟩
    case round =>
      clear W1 B1
      obtain ⟨L, m, x, v, A, c, rfl, rfl, HA, W2, R2, B2⟩ := hrel
      cases gk with
      | zero =>
        have t1 : decide (L < (l.length : Int)) = false := decide_eq_false (by have := HA.out; omega)
        go_wp2_with (first
          | (go_at_call 6; refine (gladstonelaw01_awake.calls _).mono ?_; rintro e w1 ⟨rfl, hB⟩; have B3 := Aside0.mk (below_step B2.out hB); clear hB))
        go_ret
        exact ⟨rfl, B3.out⟩
      | succ q =>
        have t1 : decide (L < (l.length : Int)) = true := decide_eq_true (by have := HA.out; omega)
        have p1 : (0 ≤ L) = True := eq_true (by have := HA.out; omega)
        have q1 : (L < (l.length : Int)) = True := eq_true (by have := HA.out; omega)
        obtain ⟨ad, K, N, X, hi, rfl, c1, c2, c3⟩ := at_D HL.out L (by have := HA.out; omega) (by have := HA.out; omega)
        have HXX := Aside0.mk (HX.out _ (List.mem_of_getElem? hi))
        have C1 := Aside0.mk (And.intro c1 (And.intro c2 c3))
        have d1 := (B2.out.cell (World.block_lt_of_cell? w _ c1)).trans c1
        have d2 := (B2.out.cell (World.block_lt_of_cell? w _ c2)).trans c2
        have d3 := (B2.out.cell (World.block_lt_of_cell? w _ c3)).trans c3
        clear c1 c2 c3 hi
        have LE := Aside0.mk (show x.length ≤ 10000 by have := HA.out; have := HN.out; omega)
        by_cases hK : K = 1
        · subst hK
          obtain ⟨ka, hka⟩ := align_get x (Nat.le_trans LE.out (by decide))
          have KA := Aside0.mk hka
          obtain ⟨x', hx'⟩ : ∃ x', x ++ nbits (upW x.length) 0 = x' := ⟨_, rfl⟩
          have hx2 : x'.length ≤ 10000 + 8 := by
            rw [← hx', List.length_append, nbits_length]
            have := upW_lt x.length
            have := LE.out
            omega
          obtain ⟨kb, hkb⟩ := bytes_get x' (Nat.le_trans hx2 (by decide))
          have KB := Aside0.mk hkb
          have LX := Aside0.mk (show x'.length ≤ 1099511627776 from Nat.le_trans hx2 (by decide))
          have EX := Aside0.mk hx'
          have L4 := Aside0.mk (show x'.length ≤ 64 * (m + 1) by
            rw [← hx', List.length_append, nbits_length]
            have := upW_lt x.length
            have := HA.out
            omega)
          clear hka hkb hx' hx2
          go_wp2_with (first
            | (go_at_call 8; refine (gladstoneref01_Align.calls ka _ _ x _ _ w _ B2.out (RB_typed R2.out) KA.out).mono ?_; rintro e w3 ⟨vx, rfl, hR, hB, hK⟩; rw [EX.out] at hR; obtain ⟨Ax, cx, rfl, hcx, hCx⟩ := Kd.R_reads hR; have R3 := Aside0.mk hR; have B3 := Aside0.mk hB; have W3 := Aside0.mk (W2.out.kept hK); clear hR hB hK hcx hCx)
            | (go_at_call 9; refine (Align_b g _ x w.heap.size _ W3.out G1.out (Nat.le_trans LE.out (by decide))).mono ?_; rintro e w4 ⟨v4, rfl, hW, hF, hN⟩; rw [EX.out] at hW; have W4 := Aside0.mk hW; have R4 := Aside0.mk (RB_fr R3.out W3.out hF); have B4 := Aside0.mk (Fr.join B3.out hF G1.out W3.out.own); clear hW hF hN)
            | (go_at_call 12; refine (Len_b g _ x' w.heap.size _ W4.out LX.out).mono ?_; rintro e w5 ⟨rfl, hd⟩; have W5 := Aside0.mk (W4.out.below (drawn_below hd)); have R5 := Aside0.mk (RB_below R4.out (drawn_below hd)); have B5 := Aside0.mk (below_step B4.out (drawn_below hd)); clear hd)
            | (go_at_call 13; refine (Bytes_b g _ x' w.heap.size _ W5.out LX.out).mono ?_; rintro e w6 ⟨rfl, hB⟩; have W6 := Aside0.mk (W5.out.below hB); have R6 := Aside0.mk (RB_below R5.out hB); have B6 := Aside0.mk (below_step B5.out hB); clear hB)
            | (go_at_call 14; refine (gladstoneref01_Bytes.calls kb _ _ x' _ _ (by obtain ⟨A_, c_, e_, l_, h_⟩ := Kd.R_reads R6.out; cases e_; exact h_) (by obtain ⟨A_, c_, e_, l_, h_⟩ := Kd.R_reads R6.out; cases e_; exact l_) KB.out).mono ?_; rintro e w7 ⟨rfl, hB⟩; have W7 := Aside0.mk (W6.out.below hB); have R7 := Aside0.mk (RB_below R6.out hB); have B7 := Aside0.mk (below_step B6.out hB); clear hB))
          go_roundg q
          case measure => omega
          case rel => exact ⟨_, m + 1, x', v4, _, _, rfl, rfl, ⟨by have := HA.out; have := HN.out; rw [w64 (by omega) (by omega)]; omega, by have := HA.out; omega, L4.out⟩, W7, R7, B7⟩
        · have tK : (K == 1) = false := by simpa using hK
          have EX0 := Aside0.mk (rput_get x (Nat.le_trans LE.out (by decide)) X N HXX.out.1 HXX.out.2)
          obtain ⟨ka, hka⟩ := EX0.out
          have KA := Aside0.mk hka
          obtain ⟨x', e', hx'⟩ : ∃ x' e', rput x X N = (x', e') := ⟨_, _, rfl⟩
          have hx3 : (rput x X N).1 = x' := by rw [hx']
          have hx4 : (rput x X N).2 = e' := by rw [hx']
          have hx1 := rput_len x X N
          rw [hx3] at hx1
          have hx2 : x'.length ≤ 10000 + 56 := Nat.le_trans hx1 (Nat.add_le_add_right LE.out 56)
          obtain ⟨kb, hkb⟩ := bytes_get x' (Nat.le_trans hx2 (by decide))
          have KB := Aside0.mk hkb
          have LX := Aside0.mk (show x'.length ≤ 1099511627776 from Nat.le_trans hx2 (by decide))
          have EX := Aside0.mk hx'
          rw [hx3, hx4] at hka
          have KA := Aside0.mk hka
          have L4 := Aside0.mk (show x'.length ≤ 64 * (m + 1) by
            have := HA.out
            omega)
          clear hka hkb hx' hx2 hx3 hx4 hx1 hK EX0
          go_wp2
          refine start_ (n := 17) (S := fun w' => w'.cell? ⟨(ad.add (L.toNat * 3)).block, (ad.add (L.toNat * 3)).off + 1, none⟩ = some (.int .i64 N) ∧ w'.cell? ⟨(ad.add (L.toNat * 3)).block, (ad.add (L.toNat * 3)).off + 2, none⟩ = some (.int .u64 X)) (ds := [11]) #[false, false, false, false, false, false, false, false, false, false, false, false, false, false, false, false, false] (by kernel_rfl) rfl rfl ⟨d2, d3⟩ (fun hHeld => ?_)
          refine pure_ (i := 0) (N := some 40) (v := ?_) (a' := ?_) #[true, false, false, false, false, false, false, false, false, false, false, false, false, false, false, false, false] rfl rfl (by kernel_rfl) (fun _ _ _ h => h) (Or.inl ⟨by rfl, ?_⟩) ?_ ?_
          rotate_left
          · intro w'
            go_simp
            with_reducible rfl
          rotate_left
          · simp only [Act.put, List.setIfInBounds_toArray, List.set_cons_zero, List.set_cons_succ, i64_w, i32_w]
            rfl
          refine pure_ (i := 1) (N := some 41) (v := ?_) (a' := ?_) #[true, true, false, false, false, false, false, false, false, false, false, false, false, false, false, false, false] rfl rfl (by kernel_rfl) (fun _ _ _ h => h) (Or.inl ⟨by rfl, ?_⟩) ?_ ?_
          rotate_left
          · intro w'
            go_simp
            with_reducible rfl
          rotate_left
          · simp only [Act.put, List.setIfInBounds_toArray, List.set_cons_zero, List.set_cons_succ, i64_w, i32_w]
            rfl
          refine pure_ (i := 2) (N := some 42) (v := ?_) (a' := ?_) #[true, true, true, false, false, false, false, false, false, false, false, false, false, false, false, false, false] rfl rfl (by kernel_rfl) (fun _ _ _ h => h) (Or.inl ⟨by rfl, ?_⟩) ?_ ?_
          rotate_left
          · intro w'
            go_simp
            with_reducible rfl
          rotate_left
          · simp only [Act.put, List.setIfInBounds_toArray, List.set_cons_zero, List.set_cons_succ, i64_w, i32_w]
            rfl
          refine pure_ (i := 3) (N := some 43) (v := ?_) (a' := ?_) #[true, true, true, true, false, false, false, false, false, false, false, false, false, false, false, false, false] rfl rfl (by kernel_rfl) (fun _ _ _ h => h) (Or.inl ⟨by rfl, ?_⟩) ?_ ?_
          rotate_left
          · intro w'
            go_simp
            with_reducible rfl
          rotate_left
          · simp only [Act.put, List.setIfInBounds_toArray, List.set_cons_zero, List.set_cons_succ, i64_w, i32_w]
            rfl
          refine pure_ (i := 4) (N := some 44) (v := ?_) (a' := ?_) #[true, true, true, true, true, false, false, false, false, false, false, false, false, false, false, false, false] rfl rfl (by kernel_rfl) (fun _ _ _ h => h) (Or.inl ⟨by rfl, ?_⟩) ?_ ?_
          rotate_left
          · intro w'
            go_simp
            with_reducible rfl
          rotate_left
          · simp only [Act.put, List.setIfInBounds_toArray, List.set_cons_zero, List.set_cons_succ, i64_w, i32_w]
            rfl
          refine pure_ (i := 6) (N := some 46) (v := ?_) (a' := ?_) #[true, true, true, true, true, false, true, false, false, false, false, false, false, false, false, false, false] rfl rfl (by kernel_rfl) (fun _ _ _ h => h) (Or.inl ⟨by rfl, ?_⟩) ?_ ?_
          rotate_left
          · intro w'
            go_simp
            with_reducible rfl
          rotate_left
          · simp only [Act.put, List.setIfInBounds_toArray, List.set_cons_zero, List.set_cons_succ, i64_w, i32_w]
            rfl
          refine pure_ (i := 7) (N := some 47) (v := ?_) (a' := ?_) #[true, true, true, true, true, false, true, true, false, false, false, false, false, false, false, false, false] rfl rfl (by kernel_rfl) (fun _ _ _ h => h) (Or.inl ⟨by rfl, ?_⟩) ?_ ?_
          rotate_left
          · intro w'
            go_simp
            with_reducible rfl
          rotate_left
          · simp only [Act.put, List.setIfInBounds_toArray, List.set_cons_zero, List.set_cons_succ, i64_w, i32_w]
            rfl
          refine pure_ (i := 8) (N := some 48) (v := ?_) (a' := ?_) #[true, true, true, true, true, false, true, true, true, false, false, false, false, false, false, false, false] rfl rfl (by kernel_rfl) (fun _ _ _ h => h) (Or.inl ⟨by rfl, ?_⟩) ?_ ?_
          rotate_left
          · intro w'
            go_simp
            with_reducible rfl
          rotate_left
          · simp only [Act.put, List.setIfInBounds_toArray, List.set_cons_zero, List.set_cons_succ, i64_w, i32_w]
            rfl
          refine pure_ (i := 9) (N := some 49) (v := ?_) (a' := ?_) #[true, true, true, true, true, false, true, true, true, true, false, false, false, false, false, false, false] rfl rfl (by kernel_rfl) (fun _ _ _ h => h) (Or.inl ⟨by rfl, ?_⟩) ?_ ?_
          rotate_left
          · intro w'
            go_simp
            with_reducible rfl
          rotate_left
          · simp only [Act.put, List.setIfInBounds_toArray, List.set_cons_zero, List.set_cons_succ, i64_w, i32_w]
            rfl
          refine take_ (i := 5) (N := some 45) (v := ?_) (a' := ?_) #[true, true, true, true, true, true, true, true, true, true, false, false, false, false, false, false, false] rfl rfl (by kernel_rfl) (fun _ _ _ h => h) (Or.inl ⟨by rfl, ?_⟩) hHeld ?_ ?_
          rotate_left
          · rintro w' ⟨s0, s1⟩
            go_simp
            with_reducible rfl
          rotate_left
          · simp only [Act.put, List.setIfInBounds_toArray, List.set_cons_zero, List.set_cons_succ, i64_w, i32_w]
            rfl
          refine take_ (i := 10) (N := some 50) (v := ?_) (a' := ?_) #[true, true, true, true, true, true, true, true, true, true, true, false, false, false, false, false, false] rfl rfl (by kernel_rfl) (fun _ _ _ h => h) (Or.inl ⟨by rfl, ?_⟩) hHeld ?_ ?_
          rotate_left
          · rintro w' ⟨s0, s1⟩
            go_simp
            with_reducible rfl
          rotate_left
          · simp only [Act.put, List.setIfInBounds_toArray, List.set_cons_zero, List.set_cons_succ, i64_w, i32_w]
            rfl
          refine last_ (i := 11) (N := some 51) #[true, true, true, true, true, true, true, true, true, true, true, true, false, false, false, false, false] rfl rfl (by kernel_rfl) (by decide) (fun K hK => ?_)
          refine goes_ Try.func10 (by kernel_rfl) rfl #[.slice A x.length c, .int .u64 X, .int .i64 N] (by rfl) rfl rfl (by simp only [List.map_toArray, List.map_cons, List.map_nil]; rfl) ?_
          with_reducible refine (gladstoneref01_Put.calls ka _ _ x X N _ _ w wr.drew (below_drew B2.out) (RB_typed (Kd.R_drew R2.out)) KA.out).mono ?_
          rintro e w3 ⟨vx, rfl, hR, hB, hK⟩
          refine ⟨_, rfl, ?_⟩
          obtain ⟨Ax, cx, rfl, hcx, hCx⟩ := Kd.R_reads hR
          have R3 := Aside0.mk hR
          have B3 := Aside0.mk hB
          have W3 := Aside0.mk ((W2.out.below (below_drew (Below.refl _ _))).kept hK)
          clear hR hB hK hcx hCx
          refine hK.out _ _ ?_
          clear hK K
          refine norm_ (a' := ?_) ?_ ?_
          rotate_left
          · show Act.put _ (some 51) _ = _
            simp only [Act.put, List.setIfInBounds_toArray, List.set_cons_zero, List.set_cons_succ, i64_w, i32_w]
            rfl
          refine pure_ (i := 12) (N := some 39) (v := ?_) (a' := ?_) #[true, true, true, true, true, true, true, true, true, true, true, true, true, false, false, false, false] rfl rfl (by kernel_rfl) (fun _ _ _ h => h) (Or.inl ⟨by rfl, ?_⟩) ?_ ?_
          rotate_left
          · intro w'
            go_simp
            with_reducible rfl
          rotate_left
          · simp only [Act.put, List.setIfInBounds_toArray, List.set_cons_zero, List.set_cons_succ, i64_w, i32_w]
            rfl
          refine pure_ (i := 13) (N := some 52) (v := ?_) (a' := ?_) #[true, true, true, true, true, true, true, true, true, true, true, true, true, true, false, false, false] rfl rfl (by kernel_rfl) (fun _ _ _ h => h) (Or.inl ⟨by rfl, ?_⟩) ?_ ?_
          rotate_left
          · intro w'
            go_simp
            with_reducible rfl
          rotate_left
          · simp only [Act.put, List.setIfInBounds_toArray, List.set_cons_zero, List.set_cons_succ, i64_w, i32_w]
            rfl
          refine pure_ (i := 14) (N := some 53) (v := ?_) (a' := ?_) #[true, true, true, true, true, true, true, true, true, true, true, true, true, true, true, false, false] rfl rfl (by kernel_rfl) (fun _ _ _ h => h) (Or.inl ⟨by rfl, ?_⟩) ?_ ?_
          rotate_left
          · intro w'
            go_simp
            with_reducible rfl
          rotate_left
          · simp only [Act.put, List.setIfInBounds_toArray, List.set_cons_zero, List.set_cons_succ, i64_w, i32_w]
            rfl
          refine pure_ (i := 15) (N := some 8) (v := ?_) (a' := ?_) #[true, true, true, true, true, true, true, true, true, true, true, true, true, true, true, true, false] rfl rfl (by kernel_rfl) (fun _ _ _ h => h) (Or.inl ⟨by rfl, ?_⟩) ?_ ?_
          rotate_left
          · intro w'
            go_simp
            with_reducible rfl
          rotate_left
          · simp only [Act.put, List.setIfInBounds_toArray, List.set_cons_zero, List.set_cons_succ, i64_w, i32_w]
            rfl
          refine pure_ (i := 16) (N := some 9) (v := ?_) (a' := ?_) #[true, true, true, true, true, true, true, true, true, true, true, true, true, true, true, true, true] rfl rfl (by kernel_rfl) (fun _ _ _ h => h) (Or.inl ⟨by rfl, ?_⟩) ?_ ?_
          rotate_left
          · intro w'
            go_simp
            with_reducible rfl
          rotate_left
          · simp only [Act.put, List.setIfInBounds_toArray, List.set_cons_zero, List.set_cons_succ, i64_w, i32_w]
            rfl
          refine done_ (by kernel_rfl) ?_
          clear d1 d2 d3
          go_wp2
          refine start_ (n := 14) (S := fun w' => w'.cell? ⟨(ad.add (L.toNat * 3)).block, (ad.add (L.toNat * 3)).off + 1, none⟩ = some (.int .i64 N) ∧ w'.cell? ⟨(ad.add (L.toNat * 3)).block, (ad.add (L.toNat * 3)).off + 2, none⟩ = some (.int .u64 X)) (ds := [11]) #[false, false, false, false, false, false, false, false, false, false, false, false, false, false] (by kernel_rfl) rfl rfl ⟨((B3.out.cell (World.block_lt_of_cell? w _ C1.out.2.1)).trans C1.out.2.1), ((B3.out.cell (World.block_lt_of_cell? w _ C1.out.2.2)).trans C1.out.2.2)⟩ (fun hHeld => ?_)
          refine pure_ (i := 0) (N := some 55) (v := ?_) (a' := ?_) #[true, false, false, false, false, false, false, false, false, false, false, false, false, false] rfl rfl (by kernel_rfl) (fun _ _ _ h => h) (Or.inl ⟨by rfl, ?_⟩) ?_ ?_
          rotate_left
          · intro w'
            go_simp
            with_reducible rfl
          rotate_left
          · simp only [Act.put, List.setIfInBounds_toArray, List.set_cons_zero, List.set_cons_succ, i64_w, i32_w]
            rfl
          refine pure_ (i := 1) (N := some 56) (v := ?_) (a' := ?_) #[true, true, false, false, false, false, false, false, false, false, false, false, false, false] rfl rfl (by kernel_rfl) (fun _ _ _ h => h) (Or.inl ⟨by rfl, ?_⟩) ?_ ?_
          rotate_left
          · intro w'
            go_simp
            with_reducible rfl
          rotate_left
          · simp only [Act.put, List.setIfInBounds_toArray, List.set_cons_zero, List.set_cons_succ, i64_w, i32_w]
            rfl
          refine pure_ (i := 2) (N := some 57) (v := ?_) (a' := ?_) #[true, true, true, false, false, false, false, false, false, false, false, false, false, false] rfl rfl (by kernel_rfl) (fun _ _ _ h => h) (Or.inl ⟨by rfl, ?_⟩) ?_ ?_
          rotate_left
          · intro w'
            go_simp
            with_reducible rfl
          rotate_left
          · simp only [Act.put, List.setIfInBounds_toArray, List.set_cons_zero, List.set_cons_succ, i64_w, i32_w]
            rfl
          refine pure_ (i := 3) (N := some 58) (v := ?_) (a' := ?_) #[true, true, true, true, false, false, false, false, false, false, false, false, false, false] rfl rfl (by kernel_rfl) (fun _ _ _ h => h) (Or.inl ⟨by rfl, ?_⟩) ?_ ?_
          rotate_left
          · intro w'
            go_simp
            with_reducible rfl
          rotate_left
          · simp only [Act.put, List.setIfInBounds_toArray, List.set_cons_zero, List.set_cons_succ, i64_w, i32_w]
            rfl
          refine pure_ (i := 4) (N := some 59) (v := ?_) (a' := ?_) #[true, true, true, true, true, false, false, false, false, false, false, false, false, false] rfl rfl (by kernel_rfl) (fun _ _ _ h => h) (Or.inl ⟨by rfl, ?_⟩) ?_ ?_
          rotate_left
          · intro w'
            go_simp
            with_reducible rfl
          rotate_left
          · simp only [Act.put, List.setIfInBounds_toArray, List.set_cons_zero, List.set_cons_succ, i64_w, i32_w]
            rfl
          refine pure_ (i := 6) (N := some 61) (v := ?_) (a' := ?_) #[true, true, true, true, true, false, true, false, false, false, false, false, false, false] rfl rfl (by kernel_rfl) (fun _ _ _ h => h) (Or.inl ⟨by rfl, ?_⟩) ?_ ?_
          rotate_left
          · intro w'
            go_simp
            with_reducible rfl
          rotate_left
          · simp only [Act.put, List.setIfInBounds_toArray, List.set_cons_zero, List.set_cons_succ, i64_w, i32_w]
            rfl
          refine pure_ (i := 7) (N := some 62) (v := ?_) (a' := ?_) #[true, true, true, true, true, false, true, true, false, false, false, false, false, false] rfl rfl (by kernel_rfl) (fun _ _ _ h => h) (Or.inl ⟨by rfl, ?_⟩) ?_ ?_
          rotate_left
          · intro w'
            go_simp
            with_reducible rfl
          rotate_left
          · simp only [Act.put, List.setIfInBounds_toArray, List.set_cons_zero, List.set_cons_succ, i64_w, i32_w]
            rfl
          refine pure_ (i := 8) (N := some 63) (v := ?_) (a' := ?_) #[true, true, true, true, true, false, true, true, true, false, false, false, false, false] rfl rfl (by kernel_rfl) (fun _ _ _ h => h) (Or.inl ⟨by rfl, ?_⟩) ?_ ?_
          rotate_left
          · intro w'
            go_simp
            with_reducible rfl
          rotate_left
          · simp only [Act.put, List.setIfInBounds_toArray, List.set_cons_zero, List.set_cons_succ, i64_w, i32_w]
            rfl
          refine pure_ (i := 9) (N := some 64) (v := ?_) (a' := ?_) #[true, true, true, true, true, false, true, true, true, true, false, false, false, false] rfl rfl (by kernel_rfl) (fun _ _ _ h => h) (Or.inl ⟨by rfl, ?_⟩) ?_ ?_
          rotate_left
          · intro w'
            go_simp
            with_reducible rfl
          rotate_left
          · simp only [Act.put, List.setIfInBounds_toArray, List.set_cons_zero, List.set_cons_succ, i64_w, i32_w]
            rfl
          refine pure_ (i := 12) (N := some 67) (v := ?_) (a' := ?_) #[true, true, true, true, true, false, true, true, true, true, false, false, true, false] rfl rfl (by kernel_rfl) (fun _ _ _ h => h) (Or.inl ⟨by rfl, ?_⟩) ?_ ?_
          rotate_left
          · intro w'
            go_simp
            with_reducible rfl
          rotate_left
          · simp only [Act.put, List.setIfInBounds_toArray, List.set_cons_zero, List.set_cons_succ, i64_w, i32_w]
            rfl
          refine take_ (i := 5) (N := some 60) (v := ?_) (a' := ?_) #[true, true, true, true, true, true, true, true, true, true, false, false, true, false] rfl rfl (by kernel_rfl) (fun _ _ _ h => h) (Or.inl ⟨by rfl, ?_⟩) hHeld ?_ ?_
          rotate_left
          · rintro w' ⟨s0, s1⟩
            go_simp
            with_reducible rfl
          rotate_left
          · simp only [Act.put, List.setIfInBounds_toArray, List.set_cons_zero, List.set_cons_succ, i64_w, i32_w]
            rfl
          refine take_ (i := 10) (N := some 65) (v := ?_) (a' := ?_) #[true, true, true, true, true, true, true, true, true, true, true, false, true, false] rfl rfl (by kernel_rfl) (fun _ _ _ h => h) (Or.inl ⟨by rfl, ?_⟩) hHeld ?_ ?_
          rotate_left
          · rintro w' ⟨s0, s1⟩
            go_simp
            with_reducible rfl
          rotate_left
          · simp only [Act.put, List.setIfInBounds_toArray, List.set_cons_zero, List.set_cons_succ, i64_w, i32_w]
            rfl
          refine last_ (i := 11) (N := some 66) #[true, true, true, true, true, true, true, true, true, true, true, true, true, false] rfl rfl (by kernel_rfl) (by decide) (fun K hK => ?_)
          refine goes_ Try.func11 (by kernel_rfl) rfl #[.pointer (some ⟨g, 0, none⟩), .int .u64 X, .int .i64 N] (by rfl) rfl rfl (by simp only [List.map_toArray, List.map_cons, List.map_nil]; rfl) ?_
          with_reducible refine (Put_c g _ x X N w.heap.size w3.drew x' e' EX.out (W3.out.below (below_drew (Below.refl _ _))) G1.out HXX.out.1 HXX.out.2 (Nat.le_trans LE.out (by decide))).mono ?_
          rintro e w4 ⟨v4, rfl, hW, hF, hN⟩
          refine ⟨_, rfl, ?_⟩
          have W4 := Aside0.mk hW
          have R4 := Aside0.mk (RB_fr (Kd.R_drew R3.out) (W3.out.below (below_drew (Below.refl _ _))) hF)
          have B4 := Aside0.mk (Fr.join (below_drew B3.out) hF G1.out W3.out.own)
          clear hW hF hN
          refine hK.out _ _ ?_
          clear hK K
          refine norm_ (a' := ?_) ?_ ?_
          rotate_left
          · show Act.put _ (some 66) _ = _
            simp only [Act.put, List.setIfInBounds_toArray, List.set_cons_zero, List.set_cons_succ, i64_w, i32_w]
            rfl
          refine pure_ (i := 13) (N := some 68) (v := ?_) (a' := ?_) #[true, true, true, true, true, true, true, true, true, true, true, true, true, true] rfl rfl (by kernel_rfl) (fun _ _ _ h => h) (Or.inl ⟨by rfl, ?_⟩) ?_ ?_
          rotate_left
          · intro w'
            go_simp
            with_reducible rfl
          rotate_left
          · simp only [Act.put, List.setIfInBounds_toArray, List.set_cons_zero, List.set_cons_succ, i64_w, i32_w]
            rfl
          refine done_ (by kernel_rfl) ?_
          go_wp2_with (first
            | (go_at_call 12; refine (Len_b g _ x' w.heap.size _ W4.out LX.out).mono ?_; rintro e w5 ⟨rfl, hd⟩; have W5 := Aside0.mk (W4.out.below (drawn_below hd)); have R5 := Aside0.mk (RB_below R4.out (drawn_below hd)); have B5 := Aside0.mk (below_step B4.out (drawn_below hd)); clear hd)
            | (go_at_call 13; refine (Bytes_b g _ x' w.heap.size _ W5.out LX.out).mono ?_; rintro e w6 ⟨rfl, hB⟩; have W6 := Aside0.mk (W5.out.below hB); have R6 := Aside0.mk (RB_below R5.out hB); have B6 := Aside0.mk (below_step B5.out hB); clear hB)
            | (go_at_call 14; refine (gladstoneref01_Bytes.calls kb _ _ x' _ _ (by obtain ⟨A_, c_, e_, l_, h_⟩ := Kd.R_reads R6.out; cases e_; exact h_) (by obtain ⟨A_, c_, e_, l_, h_⟩ := Kd.R_reads R6.out; cases e_; exact l_) KB.out).mono ?_; rintro e w7 ⟨rfl, hB⟩; have W7 := Aside0.mk (W6.out.below hB); have R7 := Aside0.mk (RB_below R6.out hB); have B7 := Aside0.mk (below_step B6.out hB); clear hB))
          go_roundg q
          case measure => omega
          case rel => exact ⟨_, m + 1, x', v4, _, _, rfl, rfl, ⟨by have := HA.out; have := HN.out; rw [w64 (by omega) (by omega)]; omega, by have := HA.out; omega, L4.out⟩, W7, R7, B7⟩
end Go.Proofs.Ytbbmnaiofdjacaa.P
