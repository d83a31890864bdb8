/- flat.New, walked by hand. -/
import Derived.Test.YtpmllmllabjopaaPureTb
import Derived.Test.YtpmllmllabjopaaRec
import Derived.Test.YtpmllmllabjopaaHw
import Derived.BigQuiet
set_option linter.unusedVariables false
set_option linter.unusedSimpArgs false
set_option linter.unusedSectionVars false
namespace Go.Proofs.Ytpmllmllabjopaa.Hd
open Go Go.RowKit Go.Deep Go.Proofs.YtpmllmllabjopaaW.PrintWords Go.Proofs.YtpmllmllabjopaaW.PrintLast Go.Proofs.YtpmllmllabjopaaW.PrintMore Go.Proofs.Ytpmllmllabjopaa.Hw Go.Proofs.Ytpmllmllabjopaa.Com Go.Proofs.Ytpmllmllabjopaa.Cn Go.Proofs.Ytpmllmllabjopaa.P Go.Proofs.Ytpmllmllabjopaa.Pure
attribute [local go_sem] max2_int min2_int max_two min_two max_three min_three max_four min_four
attribute [local irreducible] ord pos code tv mb
def ent (p : Nat × Nat) : List Value := [.int .i64 (p.1 : Int), .int .i64 (p.2 : Int)]
def TabS (W : World) (g b M : Nat) (lim : Int) (f : Nat → Nat × Nat) : Prop := W.heap[g]? = some (.cells #[.int .i64 lim, .slice (some ⟨b, 0, none⟩) M M] 48 (0, 0)) ∧ Rec W b 51 2 M (fun x => ent (f x))
theorem infoE : (Try.prog.info? 51).map (fun i => (i.zero, i.size, i.bytes)) = some (some (.agg #[.int .i64 0, .int .i64 0]), (ent (0, 0)).length, 16) := by kernel_rfl
theorem sizeE : (Try.prog.info? 51).map (·.size) = some 2 := by kernel_rfl
theorem pow_at : ∀ n : Nat, n ≤ 16 → IntKind.i64.wrap (1 * 2 ^ n) = ((2 ^ n : Nat) : Int) := by decide
theorem hsh_of {x : Int} {n M : Nat} (hx : x = (n : Int)) (hn : n ≤ 16) (hM : 2 ^ n = M) : Op.shift BinOp.shl IntKind.i64 1 IntKind.i64 x = pure (.int .i64 (M : Int)) := by
  rw [hx, shift_shl .i64 .i64 1 _ (by omega) (by simp [IntKind.bits]; omega), Int.toNat_natCast, pow_at n hn, hM]
set_option maxHeartbeats 8000000 in
set_option maxRecDepth 100000 in
theorem flat_New.calls (A0 : Option Addr) (c0 : Nat) (l0 : List Int) (m : Int) (w : World) (hr0 : Kd.C (Kd.int .i64) w A0 l0.length l0) (hc0 : l0.length ≤ c0) (hl : l0.length ≤ 17592186044416) :
    Calls Try.prog 6 #[.slice A0 l0.length c0, .int .i64 m] w fun e w' => Below w.heap.size w w' ∧ ((errN l0 m ≠ 0 ∧ e = .returned (.tuple #[.pointer none, .int .i64 (errN l0 m)])) ∨
      (errN l0 m = 0 ∧ ∃ g b, e = .returned (.tuple #[.pointer (some ⟨g, 0, none⟩), .int .i64 0]) ∧ w.heap.size ≤ g ∧ w.heap.size ≤ b ∧ TabS w' g b (2 ^ m.toNat) m (tv l0 l0.length))) := by
  have HR := Aside0.mk hr0
  have HC := Aside0.mk hc0
  by_cases h1 : m < 1
  · have e : errN l0 m = 1 := if_pos (.inl h1)
    have t1 : decide (m < 1) = true := decide_eq_true h1
    have E := Aside0.mk e
    clear hr0 hc0 e
    go_enter Try.func6, Try.ntmps6
    go_wp2
    go_ret2
    exact ⟨Below.refl _ _, .inl ⟨by rw [E.out]; decide, by rw [E.out]; rfl⟩⟩
  have t1 : decide (m < 1) = false := decide_eq_false h1
  by_cases h2 : 15 < m
  · have e : errN l0 m = 1 := if_pos (.inr h2)
    have t2 : decide (15 < m) = true := decide_eq_true h2
    have E := Aside0.mk e
    clear hr0 hc0 e
    go_enter Try.func6, Try.ntmps6
    go_wp2
    go_ret2
    exact ⟨Below.refl _ _, .inl ⟨by rw [E.out]; decide, by rw [E.out]; rfl⟩⟩
  have t2 : decide (15 < m) = false := decide_eq_false h2
  have e : errN l0 m = chk l0 m := if_neg (by omega)
  have E := Aside0.mk e
  obtain ⟨k, hk⟩ := ev_get (chk_ev l0 hl m)
  have KC := Aside0.mk hk
  by_cases t0 : chk l0 m = 0
  case neg =>
    have TN := Aside0.mk t0
    obtain ⟨t, ht⟩ : ∃ t, chk l0 m = t := ⟨_, rfl⟩
    rw [ht] at KC TN E
    have t3 : (t != 0) = true := by simpa using TN.out
    clear hr0 hc0 e hk t0 ht
    go_enter Try.func6, Try.ntmps6
    go_wp2_with (first
      | (go_at_call 14; (with_reducible refine (kraft_Check.calls k _ _ l0 m t _ HR.out HC.out KC.out).mono ?_); rintro e w1 ⟨rfl, hB⟩; have B1 := Aside0.mk (Hd.drawn_b hB); clear hB))
    go_ret2
    exact ⟨B1.out, .inl ⟨by rw [E.out]; exact TN.out, by rw [E.out]; rfl⟩⟩
  rw [t0] at KC E
  obtain ⟨c1, c2, c16, clim⟩ := chk_lim t0
  obtain ⟨k2, hk2⟩ := ev_get (codes_ev l0 hl)
  rw [show codesP l0 = (codesL l0, 0) from if_pos c16] at hk2
  have KC2 := Aside0.mk hk2
  have CK := Aside0.mk c16
  have CL := Aside0.mk clim
  have HK := Aside0.mk (chk_len c16)
  obtain ⟨M, hM⟩ : ∃ M, 2 ^ m.toNat = M := ⟨_, rfl⟩
  have hsh := hsh_of (show m = (m.toNat : Int) by omega) (show m.toNat ≤ 16 by omega) hM
  have hMb : M ≤ 32768 := by rw [← hM]; exact Nat.pow_le_pow_right (n := 2) (by decide) (show m.toNat ≤ 15 by omega)
  rw [hM]
  have HM := Aside0.mk (And.intro hM hMb)
  clear hr0 hc0 e hk t0 hk2 c1 c2 c16 clim hM hMb h1 h2
  go_enter Try.func6, Try.ntmps6
  go_wp2_with (first
    | (go_at_call 14; (with_reducible refine (kraft_Check.calls k _ _ l0 m 0 _ HR.out HC.out KC.out).mono ?_); rintro e w1 ⟨rfl, hB⟩; have B1 := Aside0.mk (Hd.drawn_b hB); clear hB)
    | (go_at_call 15; (with_reducible refine (canon_Codes.calls k2 _ _ l0 _ _ _ (Kd.C_below HR.out B1.out) HC.out KC2.out).mono ?_); rintro e w2 ⟨vc, rfl, hR, hB⟩; obtain ⟨Ac, cc, e2, hcc, hCC⟩ := Kd.R_reads hR; subst e2; have CC := Aside0.mk hCC; have B2 := Aside0.mk (below_step B1.out hB); clear hB hR hcc hCC)
    | ((with_reducible refine gate_dst (N := 33) rfl ?_); refine make_rec rfl rfl M rfl rfl Try.underlying46 (.agg #[.int .i64 0, .int .i64 0]) (ent (0, 0)) infoE rfl (by decide) (by have := HM.out.2; omega) (by have := HM.out.2; omega) ?_; intro gb w3 G3 K3 B3)
    | ((with_reducible refine gate_dst (N := 35) rfl ?_); refine box_event ?hg (N := 35) ?hd (cs := #[.int .i64 m, .slice (some ⟨gb, 0, none⟩) M M]) (t := 48) ?hr ?_; (case hd => rfl); (case hg => rfl); (case hr => first | (go_simp; done) | (go_simp; rfl)); intro g hg w4 hx hB; have X4 := Aside0.mk hx; have B4 := Aside0.mk hB; have G4 := Aside0.mk hg; clear hx hB hg))
  have NE := Aside0.mk (show gb ≠ g from Nat.ne_of_lt (by rw [G4.out]; exact K3.out.lt))
  have T4 := Aside0.mk (show TabS w4 g gb M m (tv l0 0) from ⟨X4.out, (K3.out.below B4.out).congr (fun x _ => by rw [tv])⟩)
  have B5 := Aside0.mk (below_step B3.out B4.out)
  have G5 := Aside0.mk (show w2.heap.size ≤ g from by rw [G4.out]; exact B3.out.size)
  clear X4 K3 B3 B4 G4 KC KC2 hsh
  go_loopg [38] l0.length (fun q v38 w' => ∃ (L : Int) (j : Nat), v38 = .int .i64 L ∧ Aside0 (L = (j : Int) ∧ j + q = l0.length) ∧ Aside0 (TabS w' g gb M m (tv l0 j)) ∧ Aside0 (Below w2.heap.size w2 w'))
  case atStart => exact ⟨0, 0, rfl, ⟨rfl, by omega⟩, T4, B5⟩
  case round =>
    clear T4 B5
    obtain ⟨L, j, rfl, HA, T, B⟩ := hrel
    cases gk with
    | zero =>
      have t1 : decide (L < (l0.length : Int)) = false := decide_eq_false (by have := HA.out; omega)
      have ej : j = l0.length := by have := HA.out; omega
      subst ej
      go_wp2
      go_ret2
      exact ⟨below_step B2.out B.out, .inr ⟨E.out, g, gb, rfl, Nat.le_trans B2.out.size G5.out, Nat.le_trans B2.out.size G3.out, T.out⟩⟩
    | succ q =>
      have t1 : decide (L < (l0.length : Int)) = true := decide_eq_true (by have := HA.out; omega)
      have p1 : (0 ≤ L) = True := eq_true (by have := HA.out; omega)
      have q1 : (L < (l0.length : Int)) = True := eq_true (by have := HA.out; omega)
      have hjl : j < l0.length := by have := HA.out; omega
      have h16 := ln16 HK.out.2 hjl
      obtain ⟨ad, e_, hc⟩ := Kd.at_int HR.out L (by have := HA.out; omega) (by have := HA.out; omega)
      subst e_
      have hc1 := ((below_step B2.out B.out).cell (World.block_lt_of_cell? w _ hc)).trans hc
      rw [HA.out.1, rd_nat, h16.2, Int.toNat_natCast] at hc1
      clear hc
      obtain ⟨n, hn⟩ : ∃ n, ln l0 j = n := ⟨_, rfl⟩
      rw [hn] at hc1 h16
      have eL : L = (j : Int) := HA.out.1
      subst eL
      by_cases h0 : n = 0
      · have t2 : ((n : Int) == 0) = true := by rw [h0]; rfl
        have HZ := Aside0.mk (show l0.getD j 0 ≤ 0 by rw [h16.2]; omega)
        clear h16 hn hjl
        go_wp2
        go_roundg q
        case measure => exact Nat.lt_succ_self _
        case rel =>
          refine ⟨wrap64 ((j : Int) + 1), j + 1, rfl, ⟨?_, by have := HA.out; omega⟩, ⟨T.out.1, T.out.2.congr (fun x _ => by rw [tv_skip (Int.not_lt.2 HZ.out)])⟩, B⟩
          have := HA.out; have := HK.out.1; rw [w64 (by omega) (by omega)]; omega
      · have t2 : ((n : Int) == 0) = false := by rw [beq_eq_false_iff_ne]; omega
        have hcl : j < (codesL l0).length := by rw [codes_len]; exact hjl
        have q2 : (((j : Nat) : Int) < ((codesL l0).length : Int)) = True := eq_true (by omega)
        have hjl2 : (((j : Nat) : Int) < (l0.length : Int)) = True := eq_true (by omega)
        obtain ⟨ad2, e_, hc2⟩ := Kd.at_int CC.out ((j : Nat) : Int) (by omega) (by omega)
        subst e_
        have hc2' := (B.out.cell (World.block_lt_of_cell? w2 _ hc2)).trans hc2
        rw [codes_rd hjl, Int.toNat_natCast] at hc2'
        clear hc2
        obtain ⟨C, hC⟩ : ∃ C, code l0 j = C := ⟨_, rfl⟩
        rw [hC] at hc2'
        obtain ⟨kt, hkt⟩ := ev_get (turned_ev (C : Int) (n : Int))
        have hturn : turn (C : Int) (n : Int) = (bv (mb C n) : Int) := by
          unfold turn
          rw [if_neg (by omega), Int.toNat_natCast, T_mb]
        rw [hturn] at hkt
        have hmb := mb_bd C n
        obtain ⟨X0, hX0⟩ : ∃ X0, bv (mb C n) = X0 := ⟨_, rfl⟩
        rw [hX0] at hkt hmb
        obtain ⟨N, hN⟩ : ∃ N, 2 ^ n = N := ⟨_, rfl⟩
        have hsn := hsh_of (show (n : Int) = (n : Int) from rfl) h16.1 hN
        rw [hN] at hmb
        have KT := Aside0.mk hkt
        have HN := Aside0.mk (show N ≤ 65536 ∧ 1 ≤ N from by
          rw [← hN]
          exact ⟨Nat.pow_le_pow_right (n := 2) (by decide) h16.1, Nat.two_pow_pos _⟩)
        have H0 := Aside0.mk (show 0 < l0.getD j 0 by rw [h16.2]; omega)
        have HX := Aside0.mk (show ln l0 j = n ∧ code l0 j = C ∧ bv (mb C n) = X0 ∧ 2 ^ n = N ∧ X0 < N from ⟨hn, hC, hX0, hN, hmb⟩)
        clear h16 hn hjl hcl hC hkt hturn hmb hX0 hN h0
        go_wp2_with (first
          | (go_at_call 16; (with_reducible refine (canon_Turned.calls kt _ _ _ _ KT.out).mono ?_); rintro e w5 ⟨rfl, hd⟩; have T5 := Aside0.mk (show TabS w5 g gb M m (tv l0 j) from ⟨blk_below T.out.1 hd.below, T.out.2.below hd.below⟩); have B6 := Aside0.mk (below_step B.out hd.below); clear hd))
        clear T B hc1 hc2'
        have T6 := Aside0.mk (show TabS w5 g gb M m (tin l0 j X0) from ⟨T5.out.1, T5.out.2.congr (fun x _ => by
          have h := tin_start l0 j x
          rw [HX.out.1, HX.out.2.1, HX.out.2.2.1] at h
          rw [h])⟩)
        clear T5
        go_loopg [12] M (fun q v12 w' => ∃ X : Nat, v12 = .int .i64 (X : Int) ∧ Aside0 (X % N = X0 ∧ M ≤ X + q ∧ X < M + N + N) ∧ Aside0 (TabS w' g gb M m (tin l0 j X)) ∧ Aside0 (Below w2.heap.size w2 w'))
        case atStart => exact ⟨X0, rfl, ⟨Nat.mod_eq_of_lt HX.out.2.2.2.2, by omega, by have := HX.out.2.2.2.2; omega⟩, T6, B6⟩
        case round =>
          clear T6 B6
          obtain ⟨X, rfl, HY, T, B⟩ := hrel
          have hc0 := (blk_cell T.out.1 1).trans (rfl : _ = some (Value.slice (some ⟨gb, 0, none⟩) M M))
          by_cases hlt : X < M
          · have t3 : decide ((X : Int) < (M : Int)) = true := decide_eq_true (by omega)
            have t4 : decide (X < M) = true := decide_eq_true hlt
            have p3 : (0 ≤ (X : Int)) = True := eq_true (by omega)
            have q3 : ((X : Int) < (M : Int)) = True := eq_true (by omega)
            have q4 : (X < M) = True := eq_true hlt
            have HLT := Aside0.mk hlt
            cases gk with
            | zero => have := HY.out; omega
            | succ q2 =>
              clear hlt
              go_wp2_with (first
                | ((with_reducible refine gate_store (t := 51) (p := 70) rfl ?_); refine store_rec rfl 51 (.tmp 70) (.tmp 69) rfl T.out.2 X HLT.out (ent (j, n)) ?_ rfl sizeE rfl (by intro v hv; simp [ent] at hv; rcases hv with rfl | rfl <;> rfl) ?_; (case refine_1 => first | (go_simp; done) | (go_simp; rfl) | rfl); intro w6 R6 E6))
              have B6 := Aside0.mk (below_grown B.out E6.out G3.out B.out.size)
              have T6 := Aside0.mk (show TabS w6 g gb M m (tin l0 j (X + N)) from ⟨blk_grown T.out.1 E6.out (fun e => NE.out (Option.some.inj e).symm), R6.out.congr (fun x _ => by
                have h := tin_step H0.out (X := X) (by rw [HX.out.1, HX.out.2.1, HX.out.2.2.1, HX.out.2.2.2.1]; exact HY.out.1) x
                rw [HX.out.1, HX.out.2.2.2.1] at h
                rw [← h]
                split <;> rfl)⟩)
              go_roundg q2
              case measure => exact Nat.lt_succ_self _
              case rel =>
                refine ⟨X + N, ?_, ⟨?_, by have := HY.out; have := HN.out; omega, by have := HLT.out; omega⟩, T6, B6⟩
                · rw [w64 (by omega) (by have := HY.out; have := HN.out; have := HM.out; omega)]; rfl
                · rw [Nat.add_mod_right]; exact HY.out.1
          · have t3 : decide ((X : Int) < (M : Int)) = false := decide_eq_false (by omega)
            have t4 : decide (X < M) = false := decide_eq_false hlt
            have HGE := Aside0.mk (show M ≤ X by omega)
            clear hlt
            go_wp2
            go_roundg q
            case measure => exact Nat.lt_succ_self _
            case rel =>
              refine ⟨wrap64 ((j : Int) + 1), j + 1, rfl, ⟨?_, by have := HA.out; omega⟩, ⟨T.out.1, T.out.2.congr (fun x hx => by rw [tin_end HGE.out hx])⟩, B⟩
              have := HA.out; have := HK.out.1; rw [w64 (by omega) (by omega)]; omega
end Go.Proofs.Ytpmllmllabjopaa.Hd
