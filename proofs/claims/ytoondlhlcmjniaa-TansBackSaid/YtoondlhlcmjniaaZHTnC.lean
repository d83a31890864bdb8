/- tans: from a state on, and back (next, back), walked by hand. -/
import Derived.Test.YtoondlhlcmjniaaZHTnB
set_option linter.unusedVariables false
set_option linter.unusedSimpArgs false
set_option linter.unusedSectionVars false
namespace Go.Proofs.Ytoondlhlcmjniaa.Hd
open Go Go.RowKit Go.Proofs.YtoondlhlcmjniaaW.PrintWords Go.Proofs.YtoondlhlcmjniaaW.PrintLast Go.Proofs.YtoondlhlcmjniaaW.PrintMore Go.Proofs.Ytoondlhlcmjniaa.Hw Go.Proofs.Ytoondlhlcmjniaa.Com Go.Proofs.Ytoondlhlcmjniaa.Cn Go.Proofs.Ytoondlhlcmjniaa.P Go.Proofs.Ytoondlhlcmjniaa.Tn
attribute [local go_sem] max2_int min2_int max_two min_two max_three min_three max_four min_four
theorem shl_of {y k M : Nat} {L : Int} (hL : L = (k : Int)) (hk : k ≤ 16) (hM : y * 2 ^ k = M) (hy : M ≤ 1073741824) : Op.shift BinOp.shl IntKind.i64 (y : Int) IntKind.i64 L = pure (.int .i64 (M : Int)) := by
  subst hL
  have h0 : ¬ ((k : Int) < 0) := by omega
  have h1 : min k 64 = k := by omega
  have e : (y : Int) * 2 ^ k = (M : Int) := by rw [← hM]; simp
  simp [Op.shift, IntKind.signed, IntKind.bits, h0, h1]
  rw [e, i64_w, w64 (by omega) (by omega)]
theorem shr_of {y k M : Nat} {L : Int} (hL : L = (k : Int)) (hk : k ≤ 16) (hM : y / 2 ^ k = M) : Op.shift BinOp.shr IntKind.i64 (y : Int) IntKind.i64 L = pure (.int .i64 (M : Int)) := by
  subst hL
  have h0 : ¬ ((k : Int) < 0) := by omega
  have h1 : min k 64 = k := by omega
  have e : (y : Int) / 2 ^ k = (M : Int) := by rw [← hM]; simp
  simp [Op.shift, IntKind.signed, IntKind.bits, h0, h1]
  rw [e]
set_option maxHeartbeats 8000000 in
set_option maxRecDepth 100000 in
theorem next_ok (g n : Nat) (A0 : Option Addr) (c0 : Nat) (norm : List Int) (N : Nat) (f : Nat → Nat) (x m K : Nat) (w : World) (hT : Tb w g n A0 c0 norm N f) (hn : n ≤ 12) (hN : 2 ^ n = N) (hx : x < N) (hs : f x < norm.length) (hm : norm.getD (f x) 0 = (m : Int)) (hm0 : 0 < m) (hmN : m ≤ N) (hK : kL N (m + rkF f x) (n + 1) 0 = K) :
    Calls Try.prog 26 #[.pointer (some ⟨g, 0, none⟩), .int .i64 (x : Int)] w fun e w' => e = .returned (.tuple #[.int .i64 (((m + rkF f x) * 2 ^ K : Nat) - (N : Int)), .int .i64 (K : Int)]) ∧ Below w.heap.size w w' := by
  obtain ⟨y, hy⟩ : ∃ y, m + rkF f x = y := ⟨_, rfl⟩
  have hr : rkF f x ≤ x := by
    have := List.countP_le_length (p := fun z => decide (f z = f x)) (l := List.range x)
    rw [List.length_range] at this
    exact this
  have hN2 : N ≤ 4096 := by rw [← hN]; exact Nat.pow_le_pow_right (n := 2) (by decide) hn
  rw [hy] at hK ⊢
  have HB := Aside0.mk (show n ≤ 12 ∧ 2 ^ n = N ∧ N ≤ 4096 ∧ 0 < y ∧ y ≤ 8192 ∧ kL N y (n + 1) 0 = K from ⟨hn, hN, hN2, by omega, by omega, hK⟩)
  have HY := Aside0.mk (show (m : Int) + (rkF f x : Int) = (y : Int) by omega)
  obtain ⟨A2, c2, A3, c3, gs, vs, h1, h2, h3, h4, h5, h6⟩ := hT
  have k0 := (blk_cell h1 0).trans (rfl : _ = some (Value.int .i64 (n : Int)))
  have k1 := (blk_cell h1 1).trans (rfl : _ = some (Value.slice A0 norm.length c0))
  have k2 := (blk_cell h1 2).trans (rfl : _ = some (Value.slice A2 N c2))
  have k3 := (blk_cell h1 3).trans (rfl : _ = some (Value.slice A3 N c3))
  have hX := Aside0.mk h1
  obtain ⟨s, hfs⟩ : ∃ s, f x = s := ⟨_, rfl⟩
  have l2 : (tabn N (fun x => (f x : Int))).length = N := tabn_length _ _
  have l3 : (RKi f N).length = N := tabn_length _ _
  obtain ⟨a2, e2, c2'⟩ := Kd.at_int (xs := tabn N (fun x => (f x : Int))) h3 (x : Int) (by omega) (by omega)
  obtain ⟨a3, e3, c3'⟩ := Kd.at_int (xs := RKi f N) h4 (x : Int) (by omega) (by omega)
  obtain ⟨a0, e0, c0'⟩ := Kd.at_int (xs := norm) h2 (s : Int) (by omega) (by omega)
  rw [rd_nat, tabn_getD hx, hfs, Int.toNat_natCast] at c2'
  rw [rd_nat, show (RKi f N).getD x 0 = (rkF f x : Int) from tabn_getD hx, Int.toNat_natCast] at c3'
  rw [rd_nat, ← hfs, hm, hfs, Int.toNat_natCast] at c0'
  have hsl : s < norm.length := by rw [← hfs]; exact hs
  generalize rkF f x = r at c3' HY hy hr
  generalize norm.length = ln at h1 h2 k1 h5 hX hs hsl e0
  subst e0 e2 e3
  have p1 : ((x : Int) < (N : Int)) = True := eq_true (by omega)
  have p2 : (x < N) = True := eq_true hx
  have p3 : ((s : Int) < (ln : Int)) = True := eq_true (by omega)
  have p4 : (s < ln) = True := eq_true hsl
  have EY := Aside0.mk (show wrap64 ((m : Int) + (r : Int)) = (y : Int) by rw [HY.out, w64 (by omega) (by omega)])
  clear hn hN hx hs hm hm0 hmN hK hy hr hN2 h1 h2 h3 h4 h5 h6 l2 l3 hfs hsl
  go_enter Try.func26, Try.ntmps26
  go_wp2
  go_quiet (fail)
  rw [EY.out]
  have B1 := Aside0.mk (pw_below_drewN (Below.refl w.heap.size w) nq)
  have X1 := Aside0.mk (blk_below hX.out B1.out)
  clear k0 k1 k2 k3 c0' c2' c3' p1 p2 p3 p4 hX EY HY
  generalize w.drewN nq = w1 at B1 X1
  go_wp2
  go_loopg [7] (n + 1) (fun q v7 w' => ∃ (L : Int) (k : Nat), v7 = .int .i64 L ∧ Aside0 (L = (k : Int) ∧ kL N y q k = K ∧ y * 2 ^ k ≤ 16384 ∧ k + q = n + 1) ∧ Aside0 (w'.heap[g]? = w1.heap[g]?) ∧ Aside0 (Below w.heap.size w w'))
  case atStart => exact ⟨0, 0, rfl, ⟨rfl, HB.out.2.2.2.2.2, by have := HB.out; omega, by omega⟩, ⟨rfl⟩, B1⟩
  case round =>
    clear B1
    obtain ⟨L, k, rfl, HI, HX, B⟩ := hrel
    obtain ⟨Y, hY⟩ : ∃ Y, y * 2 ^ k = Y := ⟨_, rfl⟩
    have hkn : k ≤ 16 := by have := HI.out; have := HB.out; omega
    have hs1 := shl_of (M := Y) HI.out.1 hkn hY (by have := HI.out; omega)
    have hs2 := shl_of (y := 1) (k := n) (M := N) (L := (n : Int)) rfl (by have := HB.out; omega) (by rw [Nat.one_mul]; exact HB.out.2.1) (by have := HB.out; omega)
    have hs2b : Op.shift BinOp.shl IntKind.i64 1 IntKind.i64 (n : Int) = pure (.int .i64 (N : Int)) := hs2
    have k0 := (blk_cell (HX.out.trans X1.out) 0).trans (rfl : _ = some (Value.int .i64 (n : Int)))
    have HYY := Aside0.mk (show y * 2 ^ k = Y ∧ Y ≤ 16384 from ⟨hY, by have := HI.out; omega⟩)
    clear hY hkn hs2
    cases gk with
    | zero =>
      have hN := HYY.out
      have t1 : decide ((Y : Int) < (N : Int)) = false := decide_eq_false (by
        have h1 := HB.out
        have hk : k = n + 1 := by have := HI.out; omega
        have h2 : 1 * 2 ^ k ≤ y * 2 ^ k := Nat.mul_le_mul_right _ (by omega)
        rw [hk, Nat.pow_succ, h1.2.1] at h2
        rw [hk, Nat.pow_succ, h1.2.1] at hN
        omega)
      have t2 : decide (Y < N) = false := decide_eq_false (by have := of_decide_eq_false t1; omega)
      clear hN
      have EK := Aside0.mk (show k = K from HI.out.2.1)
      go_wp2
      go_quiet (fail)
      go_wp2
      have k0 : (wr.drewN nq).cell? ⟨g, 0, none⟩ = some (.int .i64 (n : Int)) := k0
      have EW := Aside0.mk (show wrap64 ((Y : Int) - (N : Int)) = (Y : Int) - (N : Int) from w64 (by have := HYY.out; have := HB.out; omega) (by have := HYY.out; omega))
      go_quiet (fail)
      go_wp2
      go_ret2
      refine ⟨?_, pw_below_drewN (pw_below_drewN B.out _) _⟩
      rw [EW.out, ← EK.out, HI.out.1, HYY.out.1]
      rfl
    | succ q =>
      by_cases hYN : Y < N
      · have t1 : decide ((Y : Int) < (N : Int)) = true := decide_eq_true (by omega)
        have t2 : decide (Y < N) = true := decide_eq_true hYN
        have EK := Aside0.mk (show kL N y q (k + 1) = K by
          have h := HI.out.2.1
          unfold kL at h
          rw [if_pos (by rw [HYY.out.1]; exact hYN)] at h
          exact h)
        have HL := Aside0.mk hYN
        clear hYN
        go_wp2
        go_quiet (fail)
        go_wp2
        go_roundg q
        case measure => omega
        case rel =>
          refine ⟨_, k + 1, rfl, ⟨?_, EK.out, ?_, by have := HI.out; omega⟩, HX, ⟨pw_below_drewN B.out _⟩⟩
          · have := HI.out; have := HB.out; rw [w64 (by omega) (by omega)]; omega
          · have h1 := HYY.out; have h2 := HL.out; have h3 := HB.out.2.2.1; rw [Nat.pow_succ, ← Nat.mul_assoc, h1.1]; omega
      · have t1 : decide ((Y : Int) < (N : Int)) = false := decide_eq_false (by omega)
        have t2 : decide (Y < N) = false := decide_eq_false hYN
        have EK := Aside0.mk (show k = K by
          have h := HI.out.2.1
          unfold kL at h
          rw [if_neg (by rw [HYY.out.1]; exact hYN)] at h
          exact h)
        clear hYN
        go_wp2
        go_quiet (fail)
        go_wp2
        have k0 : (wr.drewN nq).cell? ⟨g, 0, none⟩ = some (.int .i64 (n : Int)) := k0
        have EW := Aside0.mk (show wrap64 ((Y : Int) - (N : Int)) = (Y : Int) - (N : Int) from w64 (by have := HYY.out; have := HB.out; omega) (by have := HYY.out; omega))
        go_quiet (fail)
        go_wp2
        go_ret2
        refine ⟨?_, pw_below_drewN (pw_below_drewN B.out _) _⟩
        rw [EW.out, ← EK.out, HI.out.1, HYY.out.1]
        rfl
theorem store_var {P : Program} {ops : Array Oper} {rest : List Oper} {o : Oper} {a : Act} {Q : Exit → Act → World → Prop} {W : World} (hgd : o.guard = none) (ty : TypeId) (x y : Operand) (ho : o.op = .store ty x y) (g : Nat) (cells old : Array Value) (hx : a.eval x = .pointer (some ⟨g, 0, none⟩)) (hy : a.eval y = .agg cells) (hg : W.heap[g]? = some (.cells old ty (0, 0)))
    (hi : (P.info? ty).map (·.size) = some cells.size) (hl : old.size = cells.size) (h1 : cells.all (·.oneCell') = true)
    (h : ∀ w1, Aside0 (w1.heap[g]? = some (.cells cells ty (0, 0))) → Aside0 (W.grownBy w1 (some g)) → wpList P ops Q rest (a.put o.dst undef) w1) : wpList P ops Q (o :: rest) a W :=
  wpList_store_row hgd ty x y ho g cells hx hy ty old hg hi hl h1 (h _ ⟨setRow_heap W g _ _ ty _ hg⟩ ⟨grown_row W g _⟩)
theorem alloc_var {P : Program} {ops : Array Oper} {rest : List Oper} {o : Oper} {a : Act} {Q : Exit → Act → World → Prop} {W : World} (hgd : o.guard = none) {t : TypeId} {z : Value} {size bytes : Nat} {cs : Array Value} (ho : o.op = .alloc t) (hinfo : (P.info? t).map (fun i => (i.zero, i.size, i.bytes)) = some (some z, size, bytes)) (hc : z.cells = cs)
    (h : ∀ (g : Nat) (w1 : World), Aside0 (g = W.heap.size) → Aside0 (w1.heap[g]? = some (.cells cs t (0, 0))) → Aside0 (Below W.heap.size W w1) → wpList P ops Q rest (a.put o.dst (.pointer (some ⟨g, 0, none⟩))) w1) : wpList P ops Q (o :: rest) a W :=
  alloc_event hgd ho hinfo hc (h _ _ ⟨rfl⟩ ⟨blk_new W _⟩ ⟨below_alloc (Below.refl _ _) _⟩)
theorem Tb.k0 {W : World} {g n : Nat} {A0 : Option Addr} {c0 : Nat} {norm : List Int} {N : Nat} {f : Nat → Nat} (h : Tb W g n A0 c0 norm N f) : W.cell? ⟨g, 0, none⟩ = some (.int .i64 (n : Int)) := by
  obtain ⟨_, _, _, _, _, _, h1, _⟩ := h
  exact (blk_cell h1 0).trans rfl
theorem Tb.k1 {W : World} {g n : Nat} {A0 : Option Addr} {c0 : Nat} {norm : List Int} {N : Nat} {f : Nat → Nat} (h : Tb W g n A0 c0 norm N f) : W.cell? ⟨g, 1, none⟩ = some (.slice A0 norm.length c0) := by
  obtain ⟨_, _, _, _, _, _, h1, _⟩ := h
  exact (blk_cell h1 1).trans rfl
theorem Tb.nm {W : World} {g n : Nat} {A0 : Option Addr} {c0 : Nat} {norm : List Int} {N : Nat} {f : Nat → Nat} (h : Tb W g n A0 c0 norm N f) {s : Nat} (hs : s < norm.length) : ∃ a0, A0 = some a0 ∧ W.cell? (a0.add s) = some (.int .i64 (norm.getD s 0)) := by
  obtain ⟨_, _, _, _, _, _, h1, h2, _⟩ := h
  obtain ⟨a0, e0, hc⟩ := Kd.at_int h2 (s : Int) (by omega) (by omega)
  rw [rd_nat, Int.toNat_natCast] at hc
  exact ⟨a0, e0, hc⟩
theorem Tb.st {W : World} {g n : Nat} {A0 : Option Addr} {c0 : Nat} {norm : List Int} {N : Nat} {f : Nat → Nat} (h : Tb W g n A0 c0 norm N f) {s i : Nat} (hs : s < norm.length) (hi : i < (stF f N s).length) : ∃ gs A c, W.cell? ⟨g, 4, none⟩ = some (.slice (some ⟨gs, 0, none⟩) norm.length norm.length) ∧ W.cell? ⟨gs, s, none⟩ = some (.slice (some A) (stF f N s).length c) ∧ W.cell? (A.add i) = some (.int .i64 (((stF f N s).getD i 0 : Nat) : Int)) := by
  obtain ⟨_, _, _, _, gs, vs, h1, h2, h3, h4, h5, h6⟩ := h
  obtain ⟨A, c, e, hc⟩ := h6 s hs
  obtain ⟨ad, ea, hx⟩ := Kd.at_int hc (i : Int) (by omega) (by omega)
  have e2 : rd (STi f N s) (i : Int) = (((stF f N s).getD i 0 : Nat) : Int) := by
    rw [rd_nat]
    unfold STi zN
    rw [List.getD_eq_getElem?_getD, List.getD_eq_getElem?_getD, List.getElem?_map]
    cases (stF f N s)[i]? <;> rfl
  rw [e2, Int.toNat_natCast] at hx
  subst ea
  exact ⟨gs, ad, c, (blk_cell h1 4).trans rfl, (blk_cell h5 s).trans (by rw [tabV_get hs, e]), hx⟩
theorem infoG : (Try.prog.info? 74).map (fun i => (i.zero, i.size, i.bytes)) = some (some (.agg #[.int .u64 0, .int .i64 0]), 2, 16) := by kernel_rfl
theorem sizeG : (Try.prog.info? 74).map (·.size) = some 2 := by kernel_rfl
set_option maxHeartbeats 8000000 in
set_option maxRecDepth 100000 in
theorem back_ok (g n : Nat) (A0 : Option Addr) (c0 : Nat) (norm : List Int) (N : Nat) (f : Nat → Nat) (x s m K : Nat) (w : World) (hT : Tb w g n A0 c0 norm N f) (hn : n ≤ 12) (hN : 2 ^ n = N) (hx : x < N) (hs : s < norm.length) (hm : norm.getD s 0 = (m : Int)) (hm0 : 0 < m) (hmN : m ≤ N) (hst : (stF f N s).length = m) (hK : bL m (x + N) (n + 1) 0 = K) :
    Calls Try.prog 36 #[.pointer (some ⟨g, 0, none⟩), .int .i64 (x : Int), .int .i64 (s : Int)] w fun e w' => e = .returned (.tuple #[.int .i64 (((stF f N s).getD ((x + N) / 2 ^ K - m) 0 : Nat) : Int), .agg #[.int .u64 (((x + N) % 2 ^ K : Nat) : Int), .int .i64 (K : Int)]]) ∧ Below w.heap.size w w' := by
  have hN2 : N ≤ 4096 := by rw [← hN]; exact Nat.pow_le_pow_right (n := 2) (by decide) hn
  have hbf := back_fwd (n := n) (m := m) (x := x) (k := K) hm0 (by omega) (by omega) (by rw [hN]; exact hK)
  rw [hN] at hbf
  obtain ⟨Z, hZ⟩ : ∃ Z, x + N = Z := ⟨_, rfl⟩
  rw [hZ] at hK hbf ⊢
  have HB := Aside0.mk (show n ≤ 12 ∧ 2 ^ n = N ∧ N ≤ 4096 ∧ 0 < m ∧ m ≤ N ∧ bL m Z (n + 1) 0 = K ∧ Z < 2 * N from ⟨hn, hN, hN2, hm0, hmN, hK, by omega⟩)
  have HQ := Aside0.mk hbf
  have HT := Aside0.mk hT
  have HS := Aside0.mk (show s < norm.length ∧ norm.getD s 0 = (m : Int) ∧ (stF f N s).length = m from ⟨hs, hm, hst⟩)
  have EZ := Aside0.mk (show wrap64 ((x : Int) + (N : Int)) = (Z : Int) by rw [w64 (by omega) (by omega)]; omega)
  have hs2 := shl_of (y := 1) (k := n) (M := N) (L := (n : Int)) rfl (by omega) (by omega) (by omega)
  have hs2b : Op.shift BinOp.shl IntKind.i64 1 IntKind.i64 (n : Int) = pure (.int .i64 (N : Int)) := hs2
  clear hN2 hbf hZ hT hn hN hx hs hm hm0 hmN hst hK hs2
  go_enter Try.func36, Try.ntmps36
  go_wp2_with (first
    | ((with_reducible refine gate_dst (N := 7) rfl ?_); refine alloc_var rfl rfl infoG (cs := #[.int .u64 0, .int .i64 0]) rfl ?_; intro gc w1 G1 X1 B1; have T1 := Aside0.mk (HT.out.below B1.out); have k0 := T1.out.k0))
  rw [EZ.out]
  clear k0 EZ hs2b HT
  have GC := Aside0.mk (show w.heap.size ≤ gc from Nat.le_of_eq G1.out.symm)
  clear G1
  go_loopg [9] (n + 1) (fun q v9 w' => ∃ (L : Int) (k : Nat), v9 = .int .i64 L ∧ Aside0 (L = (k : Int) ∧ bL m Z q k = K ∧ k + q = n + 1) ∧ Aside0 (Tb w' g n A0 c0 norm N f) ∧ Aside0 (w'.heap[gc]? = some (.cells #[.int .u64 0, .int .i64 0] 74 (0, 0))) ∧ Aside0 (Below w.heap.size w w'))
  case atStart => exact ⟨0, 0, rfl, ⟨rfl, HB.out.2.2.2.2.2.1, by omega⟩, T1, X1, B1⟩
  case round =>
    clear T1 X1 B1
    obtain ⟨L, k, rfl, HI, T, X, B⟩ := hrel
    obtain ⟨D, hD⟩ : ∃ D, Z / 2 ^ k = D := ⟨_, rfl⟩
    have hkn : k ≤ 16 := by have := HI.out; have := HB.out; omega
    have hs1 := shr_of (M := D) HI.out.1 hkn hD
    have k1 := T.out.k1
    obtain ⟨a0, ea, kn⟩ := T.out.nm HS.out.1
    rw [HS.out.2.1] at kn
    subst ea
    have hDZ : D ≤ Z := by rw [← hD]; exact Nat.div_le_self _ _
    have HD := Aside0.mk (show Z / 2 ^ k = D ∧ D ≤ Z from ⟨hD, hDZ⟩)
    have e2 : IntKind.i64.wrap (2 * (m : Int)) = ((2 * m : Nat) : Int) := by rw [i64_w, w64 (by have := HB.out; omega) (by have := HB.out; omega)]; omega
    have p1 : ((s : Int) < (norm.length : Int)) = True := eq_true (by have := HS.out; omega)
    have p2 : (s < norm.length) = True := eq_true HS.out.1
    clear hD hkn hDZ
    by_cases hc : 2 * m ≤ D
    · have t1 : decide (2 * (m : Int) ≤ (D : Int)) = true := decide_eq_true (by omega)
      have t2 : decide (2 * m ≤ D) = true := decide_eq_true hc
      have HC := Aside0.mk hc
      clear hc
      go_wp2
      go_quiet (fail)
      go_wp2
      cases gk with
      | zero =>
        have h1 := HB.out
        have h2 := HI.out
        have h3 := HC.out
        have h4 := HD.out.1
        rw [show k = n + 1 by omega, Nat.pow_succ, h1.2.1] at h4
        have h5 : Z / (N * 2) = 0 := Nat.div_eq_of_lt (by omega)
        omega
      | succ q =>
        have EK := Aside0.mk (show bL m Z q (k + 1) = K by
          have h := HI.out.2.1
          unfold bL at h
          rw [if_pos (by rw [HD.out.1]; exact HC.out)] at h
          exact h)
        go_roundg q
        case measure => omega
        case rel => exact ⟨_, k + 1, rfl, ⟨by have := HI.out; have := HB.out; rw [w64 (by omega) (by omega)]; omega, EK.out, by have := HI.out; omega⟩, ⟨T.out.below (pw_below_drewN (Below.refl _ _) _)⟩, ⟨X.out⟩, ⟨pw_below_drewN B.out _⟩⟩
    · have t1 : decide (2 * (m : Int) ≤ (D : Int)) = false := decide_eq_false (by omega)
      have t2 : decide (2 * m ≤ D) = false := decide_eq_false hc
      have EK := Aside0.mk (show k = K by
        have h := HI.out.2.1
        cases gk with
        | zero => exact h
        | succ q =>
          unfold bL at h
          rw [if_neg (by rw [HD.out.1]; exact hc)] at h
          exact h)
      clear hc
      go_wp2
      go_quiet (fail)
      go_wp2
      have hq := HQ.out
      rw [← EK.out, HD.out.1] at hq
      obtain ⟨P, hP⟩ : ∃ P, 2 ^ k = P := ⟨_, rfl⟩
      have hP0 : 0 < P := by rw [← hP]; exact Nat.two_pow_pos k
      have hPN : P ≤ N := by rw [← hP, ← HB.out.2.1]; exact Nat.pow_le_pow_right (by decide) hq.1
      obtain ⟨gs, As, ct, k4, ks, kx⟩ := T.out.st (i := D - m) HS.out.1 (by rw [HS.out.2.2]; exact hq.2.2.1)
      have T' := Aside0.mk (T.out.below (pw_below_drewN (W := wr) (Below.refl _ _) nq))
      have X' := Aside0.mk (show (wr.drewN nq).heap[gc]? = some (.cells #[.int .u64 0, .int .i64 0] 74 (0, 0)) from X.out)
      have B' := Aside0.mk (show Below w.heap.size w (wr.drewN nq) from pw_below_drewN B.out nq)
      replace k1 : (wr.drewN nq).cell? ⟨g, 1, none⟩ = some (.slice (some a0) norm.length c0) := k1
      replace kn : (wr.drewN nq).cell? (a0.add s) = some (.int .i64 (m : Int)) := kn
      replace k4 : (wr.drewN nq).cell? ⟨g, 4, none⟩ = some (.slice (some ⟨gs, 0, none⟩) norm.length norm.length) := k4
      replace ks : (wr.drewN nq).cell? ⟨gs, s, none⟩ = some (.slice (some As) (stF f N s).length ct) := ks
      have eJ : (IntKind.i64.wrap ((D : Int) - (m : Int))).toNat = D - m := by rw [i64_w, w64 (by omega) (by have := HD.out; have := HB.out; omega)]; omega
      have eJ2 : IntKind.i64.wrap ((D : Int) - (m : Int)) = ((D - m : Nat) : Int) := by rw [i64_w, w64 (by omega) (by have := HD.out; have := HB.out; omega)]; omega
      replace kx : (wr.drewN nq).cell? (As.add (IntKind.i64.wrap ((D : Int) - (m : Int))).toNat) = some (.int .i64 (((stF f N s).getD (D - m) 0 : Nat) : Int)) := by rw [eJ]; exact kx
      have p3 : (0 ≤ IntKind.i64.wrap ((D : Int) - (m : Int))) = True := eq_true (by omega)
      have p4 : (IntKind.i64.wrap ((D : Int) - (m : Int)) < ((stF f N s).length : Int)) = True := eq_true (by rw [eJ2, HS.out.2.2]; have := hq.2.2.1; omega)
      have hsh := shl_of (y := 1) (M := P) HI.out.1 (by have := HB.out; have := hq.1; omega) (by rw [Nat.one_mul]; exact hP) (by have := HB.out; omega)
      replace hsh : Op.shift BinOp.shl IntKind.i64 1 IntKind.i64 L = pure (.int .i64 (P : Int)) := hsh
      have hb : Go.bits .and .i64 (Z : Int) (IntKind.i64.wrap ((P : Int) - 1)) = ((Z % P : Nat) : Int) := by
        rw [i64_w, w64 (by omega) (by have := HB.out; omega), show ((P : Int) - 1) = ((2 ^ k - 1 : Nat) : Int) by rw [hP]; omega, (bits_i64 Z (2 ^ k - 1) (by have := HB.out; omega) (by rw [hP]; have := HB.out; omega)).1, Nat.and_two_pow_sub_one_eq_mod, hP]
      have hcv : IntKind.u64.wrap ((Z % P : Nat) : Int) = ((Z % P : Nat) : Int) := wu64 (by omega) (by have := Nat.mod_lt Z hP0; have := HB.out; omega)
      obtain ⟨V, hV⟩ : ∃ V : Int, ((Z % P : Nat) : Int) = V := ⟨_, rfl⟩
      obtain ⟨x', hx'⟩ : ∃ x' : Nat, (stF f N s).getD (D - m) 0 = x' := ⟨_, rfl⟩
      rw [hV] at hb hcv
      rw [hx'] at kx
      have HV := Aside0.mk (show ((Z % 2 ^ k : Nat) : Int) = V ∧ (stF f N s).getD (D - m) 0 = x' from ⟨by rw [hP]; exact hV, hx'⟩)
      clear T X B hq hP hP0 hPN eJ eJ2 hV hx' t1 t2 e2
      generalize wr.drewN nq = w5 at T' X' B' k1 kn k4 ks kx ⊢
      go_wp2
      go_still_tail 29, (by kernel_rfl)
      change wpList _ _ _ _ _ w5.drew
      have X6 := Aside0.mk (show w5.drew.heap[gc]? = some (.cells #[.int .u64 0, .int .i64 0] 74 (0, 0)) from X'.out)
      have B6 := Aside0.mk (below_drew B'.out)
      clear X' B' T' k1 kn k4 ks kx p1 p2 p3 p4 hsh hb hcv hs1
      generalize w5.drew = w6 at X6 B6
      go_wp2_with (first
        | ((with_reducible refine gate_store (t := 74) (p := 7) rfl ?_); refine store_var rfl 74 (.tmp 7) (.tmp 58) rfl gc #[.int .u64 V, .int .i64 L] #[.int .u64 0, .int .i64 0] rfl rfl X6.out sizeG rfl (by simp [Value.oneCell']) ?_; intro w7 X7 E7))
      refine bodyPost_ret (results_tc rfl _ _ gc 74 #[.int .u64 V, .int .i64 L] (0, 0) _ rfl X7.out Try.underlying74 rfl sizeG) rfl ?_
      refine ⟨?_, below_grown B6.out E7.out GC.out B6.out.size⟩
      rw [← EK.out, HD.out.1, HV.out.1, HV.out.2, HI.out.1]
      rfl
end Go.Proofs.Ytoondlhlcmjniaa.Hd
