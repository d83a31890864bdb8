/- The law FlatReads, walked by hand. -/
import Derived.Test.YtpmllmllabjopaaHFl4
set_option linter.unusedVariables false
set_option linter.unusedSimpArgs false
set_option linter.unusedSectionVars false
namespace Go.Proofs.Ytpmllmllabjopaa.P
open Go Go.RowKit Go.Deep Go.Proofs.YtpmllmllabjopaaW.PrintWords Go.Proofs.YtpmllmllabjopaaW.PrintLast Go.Proofs.YtpmllmllabjopaaW.PrintMore Go.Proofs.Ytpmllmllabjopaa.Hw Go.Proofs.Ytpmllmllabjopaa.Com Go.Proofs.Ytpmllmllabjopaa.Cn Go.Proofs.Ytpmllmllabjopaa.Pure Go.Proofs.Ytpmllmllabjopaa.Hd
attribute [local go_sem] max2_int min2_int max_two min_two max_three min_three max_four min_four
def gladstonelaw10_FlatReads.f (_ : Nat) (_ : List Int) (_ : Int) (_ : ByteArray) : Option Bool := some true
theorem errors_ev (l : List Int) (hl : l.length ≤ 17592186044416) (m : Int) : Ev (fun k => gladstonelaw10_Errors.f k l m) (errN l m) := by
  unfold errN
  by_cases h1 : m < 1
  · rw [if_pos (.inl h1)]
    refine Ev.congr (f := fun _ => some 1) (fun k => ?_) (Ev.now _)
    unfold gladstonelaw10_Errors.f
    rw [if_pos h1]
  · by_cases h2 : 15 < m
    · rw [if_pos (.inr h2)]
      refine Ev.congr (f := fun _ => some 1) (fun k => ?_) (Ev.now _)
      unfold gladstonelaw10_Errors.f
      rw [if_neg h1, if_pos h2]
    · rw [if_neg (by omega)]
      refine Ev.congr (f := fun k => (gladstoneref06_Check.f k l m).bind fun t => some t) (fun k => ?_) (Ev.bind (rchk_ev l hl m) (Ev.now _))
      unfold gladstonelaw10_Errors.f
      rw [if_neg h1, if_neg h2]
theorem Decode_at (k : Nat) (A0 : Option Addr) (n0 c0 : Nat) (A1 : Option Addr) (n1 c1 : Nat) (l0 : List Int) (l1 : List Bool) (r1 r2 r3 : Int) (w : World) (e0 : l0.length = n0) (e1 : l1.length = n1) (hr0 : Kd.C (Kd.int .i64) w A0 n0 l0) (hc0 : n0 ≤ c0) (hr1 : Kd.C Kd.bool w A1 n1 l1) (hc1 : n1 ≤ c1) (h : gladstoneref09_Decode.f k l0 l1 = some (r1, r2, r3)) :
    Calls Try.prog 11 #[.slice A0 n0 c0, .slice A1 n1 c1] w fun e w' => e = .returned (.tuple #[.int .i64 r1, .int .i64 r2, .int .i64 r3]) ∧ Below w.heap.size w w' := by
  subst e0; subst e1
  exact gladstoneref09_Decode.calls k A0 c0 l0 A1 c1 l1 r1 r2 r3 w hr0 hc0 hr1 hc1 h
theorem Ref_new (s : ByteArray) (B : List Nat) (w : World) (hB : nb s = B) (hs : s.size ≤ 1099511627776) :
    Calls Try.prog 9 #[.string s] w fun e w' => ∃ (A : Option Addr) (c : Nat), e = .returned (.agg #[.slice A (8 * B.length) c, .int .i64 ((0 : Nat) : Int)]) ∧ 8 * B.length ≤ c ∧ Kd.R Kd.bool 4 w' w.heap.size (fun _ => True) (.slice A (8 * B.length) c) (bb B) ∧ Below w.heap.size w w' := by
  obtain ⟨k, hk⟩ := ev_get (bits_ev s hs)
  have hk2 : gladstoneref02_New.f k s = some (bb B, 0) := by
    unfold gladstoneref02_New.f
    rw [hk, hB]
    rfl
  refine (gladstoneref02_New.calls k s _ _ w hk2).mono ?_
  rintro e w' ⟨v, rfl, hR, hb⟩
  obtain ⟨A, c, rfl, hl, hC⟩ := Kd.R_reads hR
  rw [bb_length] at hl hR
  rw [bb_length]
  exact ⟨A, c, rfl, hl, hR, hb⟩
/-- Between the steps. -/
structure RS (wb : World) (g b M : Nat) (m : Int) (f : Nat → Nat × Nat) (gr : Nat) (B : List Nat) (A : Option Addr) (n c gx : Nat) (q p : Nat) (W : World) : Prop where
  t : TabS W g b M m f
  i : IsS54 wb W gr (zs B) (q : Int)
  bl : Below wb.heap.size wb W
  x : W.heap[gx]? = some (.cells #[.slice A n c, .int .i64 (p : Int)] 33 (0, 0))
  gb : wb.heap.size ≤ gx
  r : Kd.R Kd.bool 4 W 0 (fun k => k ≠ gr ∧ k ≠ gx) (.slice A n c) (bb B)
section
variable {wb W W1 : World} {g b M gr n c gx q p q' p' : Nat} {m : Int} {f : Nat → Nat × Nat} {B : List Nat} {A : Option Addr}
theorem RS.below (h : RS wb g b M m f gr B A n c gx q p W) (hb : Below W.heap.size W W1) : RS wb g b M m f gr B A n c gx q p W1 :=
  ⟨tab_below h.t hb, h.i.below hb, below_step h.bl hb, blk_below h.x hb, h.gb, Kd.R_below h.r hb⟩
theorem RS.next (h : RS wb g b M m f gr B A n c gx q p W) (hI : IsS54 wb W1 gr (zs B) (q' : Int)) (hB : Below wb.heap.size wb W1) (hK : KeepBut W W1 gr none) : RS wb g b M m f gr B A n c gx q' p W1 :=
  ⟨tab_keep h.t h.i hK, hI, hB, KeepBut.blk hK h.x (fun e => h.i.ne_blk h.x (by decide) e.symm) (by simp), h.gb, Kd.R_step h.r (fun k hk hlt => hK.2 k hlt hk.1 (by simp))⟩
theorem RS.setAt (h : RS wb g b M m f gr B A n c gx q p W) : RS wb g b M m f gr B A n c gx q p' (W.setCell ⟨gx, 1, none⟩ (.int .i64 (p' : Int))) :=
  ⟨⟨blk_far (p := ⟨gx, 1, none⟩) h.t.1 (blk_ne h.t.1 h.x (by decide)) _, h.t.2.same (Below.heap_setCell W ⟨gx, 1, none⟩ _ b (blk_ne h.t.2 h.x (by decide)))⟩, h.i.far (p := ⟨gx, 1, none⟩) (h.i.ne_blk h.x (by decide)) _, below_set h.bl h.gb, blk_put h.x 1 _ (by simp), h.gb,
    Kd.R_far h.r (p := ⟨gx, 1, none⟩) (fun k hk => hk.2) _⟩
end
theorem cut_bools {A : Option Addr} {n c q : Nat} {L : List Bool} (hl : L.length = n) (hq : q ≤ n) (hc : n ≤ c) : ∃ A' : Option Addr, (∀ W, (Instr.slice 31 (.slice A n c) (some (.int .i64 (q : Int))) none none).run Try.prog W = .ok (.slice A' (n - q) (c - q)) W) ∧
    (∀ W, Kd.C Kd.bool W A n L → Kd.C Kd.bool W A' (n - q) (L.drop q)) := by
  subst hl
  obtain ⟨i, hi, hz⟩ : ∃ i, Try.prog.info? 4 = some i ∧ i.size = 1 := by
    have h : (Try.prog.info? 4).map (·.size) = some 1 := by kernel_rfl
    obtain ⟨i, hi, hz⟩ := Option.map_eq_some_iff.1 h
    exact ⟨i, hi, hz⟩
  refine ⟨if c = q then A else A.map (·.add (q * 1)), fun W => ?_, fun W h => ?_⟩
  · exact cut_from (P := Try.prog) 31 4 .i64 Try.underlying31 hi 1 hz A L.length c (q : Int) (by omega) (by omega) W
  · have := Kd.C_drop (m := q) (c := c) h hq hc
    rw [List.length_drop] at this
    exact this
theorem alloc_var {P : Program} {ops : Array Oper} {rest : List Oper} {o : Oper} {a : Act} {Q : Exit → Act → World → Prop} {W : World} (hgd : o.guard = none) {t : TypeId} {z : Value} {size bytes : Nat} {cs : Array Value} (ho : o.op = .alloc t) (hinfo : (P.info? t).map (fun i => (i.zero, i.size, i.bytes)) = some (some z, size, bytes)) (hc : z.cells = cs)
    (h : ∀ g w1, Aside0 (g = W.heap.size) → Aside0 (w1.heap[g]? = some (.cells cs t (0, 0))) → Aside0 (Below W.heap.size W w1) → wpList P ops Q rest (a.put o.dst (.pointer (some ⟨g, 0, none⟩))) w1) : wpList P ops Q (o :: rest) a W :=
  alloc_event hgd ho hinfo hc (h _ _ ⟨rfl⟩ ⟨blk_new W _⟩ ⟨below_alloc (Below.refl _ _) _⟩)
theorem store_var {P : Program} {ops : Array Oper} {rest : List Oper} {o : Oper} {a : Act} {Q : Exit → Act → World → Prop} {W : World} (hgd : o.guard = none) (ty : TypeId) (x y : Operand) (ho : o.op = .store ty x y) (g : Nat) (cells old : Array Value) (hx : a.eval x = .pointer (some ⟨g, 0, none⟩)) (hy : a.eval y = .agg cells) (hg : W.heap[g]? = some (.cells old ty (0, 0)))
    (hi : (P.info? ty).map (·.size) = some cells.size) (hl : old.size = cells.size) (h1 : cells.all (·.oneCell') = true)
    (h : ∀ w1, Aside0 (w1.heap[g]? = some (.cells cells ty (0, 0))) → Aside0 (W.grownBy w1 (some g)) → wpList P ops Q rest (a.put o.dst undef) w1) : wpList P ops Q (o :: rest) a W :=
  wpList_store_row hgd ty x y ho g cells hx hy ty old hg hi hl h1 (h _ ⟨setRow_heap W g _ _ ty _ hg⟩ ⟨grown_row W g _⟩)
theorem rs_start {wb w3 w4 w5 w6 : World} {g b M gr gx c : Nat} {m : Int} {f : Nat → Nat × Nat} {B : List Nat} {A : Option Addr} (hT : TabS w4 g b M m f) (hI : IsS54 wb w4 gr (zs B) ((0 : Nat) : Int)) (hL : Below wb.heap.size wb w4)
    (hR : Kd.R Kd.bool 4 w4 w3.heap.size (fun _ => True) (.slice A (8 * B.length) c) (bb B)) (h3 : gr < w3.heap.size) (hg : gx = w4.heap.size) (h5 : Below w4.heap.size w4 w5)
    (hX : w6.heap[gx]? = some (.cells #[.slice A (8 * B.length) c, .int .i64 ((0 : Nat) : Int)] 33 (0, 0))) (hE : w5.grownBy w6 (some gx)) : RS wb g b M m f gr B A (8 * B.length) c gx 0 0 w6 := by
  have k46 : Below w4.heap.size w4 w6 := below_grown h5 hE (by omega) h5.size
  refine ⟨tab_below hT k46, hI.below k46, below_step hL k46, hX, by have := hL.size; omega, ?_⟩
  refine Kd.R_below (w := w4) ?_ k46
  refine Kd.R_lower (base := w3.heap.size) (Kd.R_mono (Kd.R_bound hR) ?_) (Nat.zero_le _)
  intro k hk
  exact ⟨by have := hk.2.1; omega, by have := hk.2.2.1; omega⟩
theorem infoR : (Try.prog.info? 33).map (fun i => (i.zero, i.size, i.bytes)) = some (some (.agg #[.slice none 0 0, .int .i64 0]), 2, 32) := by kernel_rfl
theorem sizeR : (Try.prog.info? 33).map (·.size) = some 2 := by kernel_rfl
set_option maxHeartbeats 8000000 in
set_option maxRecDepth 100000 in
theorem FlatReads_walk (A0 : Option Addr) (c0 : Nat) (l0 : List Int) (m : Int) (s : ByteArray) (w : World) (hr0 : Kd.C (Kd.int .i64) w A0 l0.length l0) (hc0 : l0.length ≤ c0) :
    Calls Try.prog 3 #[.slice A0 l0.length c0, .int .i64 m, .string s] w fun e w' => e = .returned (.bool true) ∧ Below w.heap.size w w' := by
  have HR := Aside0.mk hr0
  have HC := Aside0.mk hc0
  by_cases h1 : 200 < l0.length
  · have t1 : decide (200 < l0.length) = true := decide_eq_true h1
    have t2 : decide (200 < (l0.length : Int)) = true := decide_eq_true (by omega)
    clear h1 hr0 hc0
    go_enter Try.func3, Try.ntmps3
    go_wp2_with (first
      | (go_at_call 5; refine (awake10_calls _).mono ?_; rintro e w1 ⟨rfl, hB⟩; have B1 := Aside0.mk hB; clear hB))
    go_ret
    exact ⟨rfl, B1.out⟩
  have t1 : decide (200 < l0.length) = false := decide_eq_false h1
  have t2 : decide (200 < (l0.length : Int)) = false := decide_eq_false (by omega)
  by_cases h2 : 60 < s.size
  · have t3 : decide (60 < s.size) = true := decide_eq_true h2
    have t4 : decide (60 < (s.size : Int)) = true := decide_eq_true (by omega)
    clear h1 h2 hr0 hc0
    go_enter Try.func3, Try.ntmps3
    go_wp2_with (first
      | (go_at_call 5; refine (awake10_calls _).mono ?_; rintro e w1 ⟨rfl, hB⟩; have B1 := Aside0.mk hB; clear hB))
    go_ret
    exact ⟨rfl, B1.out⟩
  have t3 : decide (60 < s.size) = false := decide_eq_false h2
  have t4 : decide (60 < (s.size : Int)) = false := decide_eq_false (by omega)
  have HL := Aside0.mk (show l0.length ≤ 17592186044416 by omega)
  obtain ⟨ke, hke⟩ := ev_get (errors_ev l0 HL.out m)
  have KE := Aside0.mk hke
  by_cases he : errN l0 m = 0
  case neg =>
    obtain ⟨t, ht⟩ : ∃ t, errN l0 m = t := ⟨_, rfl⟩
    rw [ht] at he KE
    have HT := Aside0.mk (And.intro ht he)
    have t5 : (t != 0) = true := by simpa using he
    have t6 : (t == t) = true := by simp
    clear h1 h2 hr0 hc0 hke he ht
    go_enter Try.func3, Try.ntmps3
    go_wp2_with (first
      | (go_at_call 6; (with_reducible refine (New_err _ _ _ l0 m t w rfl HR.out HC.out HL.out HT.out.1 HT.out.2).mono ?_); rintro e w1 ⟨rfl, hB⟩; have B1 := Aside0.mk hB; clear hB)
      | (go_at_call 7; (with_reducible refine (gladstonelaw10_Errors.calls ke _ _ l0 m t w1 (Kd.C_below HR.out B1.out) HC.out KE.out).mono ?_); rintro e w2 ⟨rfl, hd⟩; have B2 := Aside0.mk (below_step B1.out hd.below); clear hd)
      | (go_at_call 5; refine (awake10_calls _).mono ?_; rintro e w3 ⟨rfl, hB⟩; have B3 := Aside0.mk (below_step B2.out hB); clear hB))
    go_ret
    exact ⟨rfl, B3.out⟩
  rw [he] at KE
  have HE := Aside0.mk he
  have hm : 1 ≤ m ∧ m ≤ 15 := by unfold errN at he; split at he <;> omega
  have hck : chk l0 m = 0 := by unfold errN at he; rwa [if_neg (by omega)] at he
  obtain ⟨M, hM⟩ : ∃ M, 2 ^ m.toNat = M := ⟨_, rfl⟩
  have HM := Aside0.mk hM
  obtain ⟨B, hB⟩ : ∃ B, nb s = B := ⟨_, rfl⟩
  have HB := Aside0.mk hB
  have hB256 : ∀ x ∈ B, x < 256 := by rw [← hB]; exact nb_lt s
  have hBl : B.length ≤ 60 := by rw [← hB, nb_length]; omega
  have HBB := Aside0.mk (And.intro hB256 hBl)
  have HS := Aside0.mk (show s.size ≤ 60 by omega)
  have hsh := hsh_of (show m = (m.toNat : Int) by omega) (show m.toNat ≤ 16 by omega) hM
  have HCK := Aside0.mk hck
  have hwr : IntKind.u64.wrap m = m := wu64 (by omega) (by omega)
  have hsh2 : Op.shift BinOp.shl IntKind.i64 1 IntKind.u64 m = pure (.int .i64 (M : Int)) := by
    rw [shift_shl .i64 .u64 1 _ (by omega) (by simp [IntKind.bits]; omega), pow_at m.toNat (by omega), hM]
  have hsh3 : IntKind.i64.wrap (2 ^ min m.toNat 64) = (M : Int) := by
    have h := pow_at m.toNat (by omega)
    rw [Int.one_mul, hM] at h
    rw [Nat.min_eq_left (by omega)]
    exact h
  clear h1 h2 hr0 hc0 hke he hm hck hM hB hB256 hBl hsh
  go_enter Try.func3, Try.ntmps3
  go_wp2_with (first
    | (go_at_call 6; (with_reducible refine (New_ok _ _ _ l0 m M w rfl HR.out HC.out HL.out HE.out HM.out.symm).mono ?_); rintro e w1 ⟨g, b, rfl, hT, hB⟩; have T1 := Aside0.mk hT; have B1 := Aside0.mk hB; clear hT hB)
    | (go_at_call 7; (with_reducible refine (gladstonelaw10_Errors.calls ke _ _ l0 m 0 w1 (Kd.C_below HR.out B1.out) HC.out KE.out).mono ?_); rintro e w2 ⟨rfl, hd⟩; have T2 := Aside0.mk (tab_below T1.out hd.below); have B2 := Aside0.mk (below_step B1.out hd.below); clear hd)
    | (go_at_call 8; (with_reducible refine (Reader_new s B w2 HB.out (by have := HS.out; omega)).mono ?_); rintro e w3 ⟨gr, wb, rfl, hI, hL, hB, hW⟩; have T3 := Aside0.mk (tab_below T2.out hB); have I3 := Aside0.mk hI; have L3 := Aside0.mk hL; have BW := Aside0.mk (below_step B2.out hW); clear hI hL hB hW)
    | (go_at_call 9; (with_reducible refine (Ref_new s B w3 HB.out (by have := HS.out; omega)).mono ?_); rintro e w4 ⟨A, c, rfl, hc, hR, hB⟩; have T4 := Aside0.mk (tab_below T3.out hB); have I4 := Aside0.mk (I3.out.below hB); have L4 := Aside0.mk (below_step L3.out hB); have R4 := Aside0.mk hR; have HCc := Aside0.mk hc; clear hR hB hc)
    | ((with_reducible refine gate_dst (N := 11) rfl ?_); refine alloc_var rfl rfl infoR rfl ?_; intro gx w5 G5 X5 B5)
    | ((with_reducible refine gate_store (t := 33) (p := 11) rfl ?_); refine store_var rfl 33 (.tmp 11) (.tmp 51) rfl gx #[.slice A (8 * B.length) c, .int .i64 ((0 : Nat) : Int)] _ rfl rfl X5.out sizeR rfl (by simp [Value.oneCell']) ?_; intro w6 X6 E6; have R6 := Aside0.mk (rs_start T4.out I4.out L4.out R4.out (Nat.lt_of_lt_of_le I3.out.lt (Nat.le_refl _)) G5.out B5.out X6.out E6.out); clear T4 I4 L4 R4 X5 X6 E6 G5 B5)
    | (go_at_call 10; (with_reducible refine (Size_at w6 R6.out.t).mono ?_); rintro e w7 ⟨rfl, hd⟩; have R7 := Aside0.mk (R6.out.below hd.below); clear hd))
  clear T1 T2 T3 I3 L3 B1 B2 R6 hsh2 hsh3 hwr
  go_loopg [12] 40 (fun qq v12 w' => ∃ (i : Int) (q : Nat), v12 = .int .i64 i ∧ Aside0 (i + qq = 40 ∧ 0 ≤ i ∧ q ≤ 8 * B.length) ∧ Aside0 (RS wb g b M m (tv l0 l0.length) gr B A (8 * B.length) c gx q q w'))
  case atStart => exact ⟨0, 0, rfl, ⟨by omega, by omega, by omega⟩, R7⟩
  case round =>
    clear R7
    obtain ⟨i, q, rfl, HQ, R⟩ := hrel
    cases gk with
    | zero =>
      have t1 : decide (i < 40) = false := decide_eq_false (by have := HQ.out; omega)
      have BE := Aside0.mk (rebase_join BW.out R.out.bl)
      go_wp2_with (first
        | (go_at_call 5; refine (awake10_calls _).mono ?_; rintro e w8 ⟨rfl, hB⟩; have B8 := Aside0.mk (below_step BE.out hB); clear hB))
      go_ret
      exact ⟨rfl, B8.out⟩
    | succ qq =>
      have t1 : decide (i < 40) = true := decide_eq_true (by have := HQ.out; omega)
      obtain ⟨nn, hn1, hn2⟩ := dec_nat HCK.out HBB.out.1 q
      obtain ⟨r1, hr1⟩ : ∃ r1, (decP l0 ((bb B).drop q)).1 = r1 := ⟨_, rfl⟩
      obtain ⟨r3, hr3⟩ : ∃ r3, (decP l0 ((bb B).drop q)).2.2 = r3 := ⟨_, rfl⟩
      have HD := Aside0.mk (show decP l0 ((bb B).drop q) = (r1, (nn : Int), r3) by rw [← hn1, ← hr1, ← hr3])
      obtain ⟨kd, hkd⟩ := ev_get (rdecode_ev l0 HL.out ((bb B).drop q) (by rw [List.length_drop, bb_length]; have := HBB.out.2; omega))
      rw [HD.out] at hkd
      have KD := Aside0.mk hkd
      have HQN := Aside0.mk (show q + nn ≤ 8 * B.length by have := HQ.out; omega)
      obtain ⟨A', hcut, hCC⟩ := cut_bools (A := A) (bb_length B) HQ.out.2.2 HCc.out
      have CC := Aside0.mk (hCC wr (by have h := (Kd.R_reads' R.out.r).2.2; rw [bb_length] at h; exact h))
      have CL := Aside0.mk (show (((bb B).drop q).length = 8 * B.length - q) ∧ 8 * B.length - q ≤ c - q by rw [List.length_drop, bb_length]; have := HCc.out; exact ⟨rfl, by omega⟩)
      have hx0 := (blk_cell R.out.x 0).trans (rfl : _ = some (Value.slice A (8 * B.length) c))
      have hx1 := (blk_cell R.out.x 1).trans (rfl : _ = some (Value.int .i64 (q : Int)))
      have ew : wrap64 ((q : Int) + (nn : Int)) = ((q + nn : Nat) : Int) := by rw [w64 (by omega) (by have := HQN.out; have := HBB.out.2; omega)]; omega
      have BWR := Aside0.mk (rebase_join BW.out R.out.bl)
      clear hn1 hn2 hr1 hr3 hkd hCC
      go_wp2_with (first
        | (go_at_call 11; (with_reducible refine (Decode_at kd _ _ _ _ _ _ l0 ((bb B).drop q) r1 (nn : Int) r3 wr rfl CL.out.1 (Kd.C_below HR.out BWR.out) HC.out CC.out CL.out.2 KD.out).mono ?_); rintro e w8 ⟨rfl, hB⟩; have R8 := Aside0.mk (R.out.below hB); have hy0 := (blk_cell R8.out.x 1).trans (rfl : _ = some (Value.int .i64 (q : Int))); have hyf := blk_frozen R8.out.x 1; clear hB)
        | (go_at_call 12; have R8b := Aside0.mk (R8.out.setAt (p' := q + nn)); rw [Int.natCast_add] at R8b; (with_reducible refine (Next_dec g b gr l0 m M B q nn r1 r3 wb _ R8b.out.t R8b.out.i R8b.out.bl HM.out.symm HE.out HBB.out.1 (by have := HBB.out.2; omega) HQ.out.2.2 HD.out).mono ?_); rintro e w9 ⟨rfl, hI, hB, hKe⟩; have R9 := Aside0.mk (R8b.out.next hI hB hKe); clear hI hB hKe R8b))
      have u1 : (r1 != r1) = false := by simp
      have u3 : (r3 != r3) = false := by simp
      have u4 : (((q + nn : Nat) : Int) != ((q + nn : Nat) : Int)) = false := by simp
      refine start_ (n := 15) (S := fun w' => w'.cell? ⟨gx, 1, none⟩ = some (.int .i64 ((q + nn : Nat) : Int))) (ds := []) #[false, false, false, false, false, false, false, false, false, false, false, false, false, false, false] (by kernel_rfl) rfl rfl (((blk_cell R9.out.x 1).trans rfl)) (fun hHeld => ?_)
      refine pure_ (i := 0) (N := some 96) (v := ?_) (a' := ?_) #[true, false, false, false, false, false, false, false, false, false, false, false, false, false, false] rfl rfl (by kernel_rfl) (fun _ _ _ h => h) (Or.inl ⟨by rfl, ?_⟩) ?_ ?_
      rotate_left
      · intro w'
        go_simp
        with_reducible rfl
      rotate_left
      · simp only [Act.put, List.setIfInBounds_toArray, List.set_cons_zero, List.set_cons_succ, i64_w, i32_w]
        rfl
      refine pure_ (i := 1) (N := some 97) (v := ?_) (a' := ?_) #[true, true, false, false, false, false, false, false, false, false, false, false, false, false, false] rfl rfl (by kernel_rfl) (fun _ _ _ h => h) (Or.inl ⟨by rfl, ?_⟩) ?_ ?_
      rotate_left
      · intro w'
        go_simp
        with_reducible rfl
      rotate_left
      · simp only [Act.put, List.setIfInBounds_toArray, List.set_cons_zero, List.set_cons_succ, i64_w, i32_w]
        rfl
      refine pure_ (i := 2) (N := some 98) (v := ?_) (a' := ?_) #[true, true, true, false, false, false, false, false, false, false, false, false, false, false, false] rfl rfl (by kernel_rfl) (fun _ _ _ h => h) (Or.inl ⟨by rfl, ?_⟩) ?_ ?_
      rotate_left
      · intro w'
        go_simp
        with_reducible rfl
      rotate_left
      · simp only [Act.put, List.setIfInBounds_toArray, List.set_cons_zero, List.set_cons_succ, i64_w, i32_w]
        rfl
      refine pure_ (i := 3) (N := some 99) (v := ?_) (a' := ?_) #[true, true, true, true, false, false, false, false, false, false, false, false, false, false, false] rfl rfl (by kernel_rfl) (fun _ _ _ h => h) (Or.inl ⟨by rfl, ?_⟩) ?_ ?_
      rotate_left
      · intro w'
        go_simp
        with_reducible rfl
      rotate_left
      · simp only [Act.put, List.setIfInBounds_toArray, List.set_cons_zero, List.set_cons_succ, i64_w, i32_w]
        rfl
      refine pure_ (i := 4) (N := some 100) (v := ?_) (a' := ?_) #[true, true, true, true, true, false, false, false, false, false, false, false, false, false, false] rfl rfl (by kernel_rfl) (fun _ _ _ h => h) (Or.inl ⟨by rfl, ?_⟩) ?_ ?_
      rotate_left
      · intro w'
        go_simp
        with_reducible rfl
      rotate_left
      · simp only [Act.put, List.setIfInBounds_toArray, List.set_cons_zero, List.set_cons_succ, i64_w, i32_w]
        rfl
      refine pure_ (i := 5) (N := some 101) (v := ?_) (a' := ?_) #[true, true, true, true, true, true, false, false, false, false, false, false, false, false, false] rfl rfl (by kernel_rfl) (fun _ _ _ h => h) (Or.inl ⟨by rfl, ?_⟩) ?_ ?_
      rotate_left
      · intro w'
        go_simp
        with_reducible rfl
      rotate_left
      · simp only [Act.put, List.setIfInBounds_toArray, List.set_cons_zero, List.set_cons_succ, i64_w, i32_w]
        rfl
      refine pure_ (i := 6) (N := some 102) (v := ?_) (a' := ?_) #[true, true, true, true, true, true, true, false, false, false, false, false, false, false, false] rfl rfl (by kernel_rfl) (fun _ _ _ h => h) (Or.inl ⟨by rfl, ?_⟩) ?_ ?_
      rotate_left
      · intro w'
        go_simp
        with_reducible rfl
      rotate_left
      · simp only [Act.put, List.setIfInBounds_toArray, List.set_cons_zero, List.set_cons_succ, i64_w, i32_w]
        rfl
      refine pure_ (i := 7) (N := some 103) (v := ?_) (a' := ?_) #[true, true, true, true, true, true, true, true, false, false, false, false, false, false, false] rfl rfl (by kernel_rfl) (fun _ _ _ h => h) (Or.inl ⟨by rfl, ?_⟩) ?_ ?_
      rotate_left
      · intro w'
        go_simp
        with_reducible rfl
      rotate_left
      · simp only [Act.put, List.setIfInBounds_toArray, List.set_cons_zero, List.set_cons_succ, i64_w, i32_w]
        rfl
      refine pure_ (i := 8) (N := some 104) (v := ?_) (a' := ?_) #[true, true, true, true, true, true, true, true, true, false, false, false, false, false, false] rfl rfl (by kernel_rfl) (fun _ _ _ h => h) (Or.inl ⟨by rfl, ?_⟩) ?_ ?_
      rotate_left
      · intro w'
        go_simp
        with_reducible rfl
      rotate_left
      · simp only [Act.put, List.setIfInBounds_toArray, List.set_cons_zero, List.set_cons_succ, i64_w, i32_w]
        rfl
      refine pure_ (i := 9) (N := some 105) (v := ?_) (a' := ?_) #[true, true, true, true, true, true, true, true, true, true, false, false, false, false, false] rfl rfl (by kernel_rfl) (fun _ _ _ h => h) (Or.inl ⟨by rfl, ?_⟩) ?_ ?_
      rotate_left
      · intro w'
        go_simp
        with_reducible rfl
      rotate_left
      · simp only [Act.put, List.setIfInBounds_toArray, List.set_cons_zero, List.set_cons_succ, i64_w, i32_w]
        rfl
      refine pure_ (i := 11) (N := some 107) (v := ?_) (a' := ?_) #[true, true, true, true, true, true, true, true, true, true, false, true, false, false, false] rfl rfl (by kernel_rfl) (fun _ _ _ h => h) (Or.inl ⟨by rfl, ?_⟩) ?_ ?_
      rotate_left
      · intro w'
        go_simp
        with_reducible rfl
      rotate_left
      · simp only [Act.put, List.setIfInBounds_toArray, List.set_cons_zero, List.set_cons_succ, i64_w, i32_w]
        rfl
      refine take_ (i := 12) (N := some 108) (v := ?_) (a' := ?_) #[true, true, true, true, true, true, true, true, true, true, false, true, true, false, false] rfl rfl (by kernel_rfl) (fun _ _ _ h => h) (Or.inl ⟨by rfl, ?_⟩) hHeld ?_ ?_
      rotate_left
      · intro w' s0
        go_simp
        with_reducible rfl
      rotate_left
      · simp only [Act.put, List.setIfInBounds_toArray, List.set_cons_zero, List.set_cons_succ, i64_w, i32_w]
        rfl
      refine one_ (i := 10) (N := some 106) #[true, true, true, true, true, true, true, true, true, true, true, true, true, false, false] rfl rfl (by kernel_rfl) (by decide) (fun K hK => ?_)
      refine goes_ Try.func13 (by kernel_rfl) rfl #[.pointer (some ⟨gr, 0, none⟩)] (by rfl) rfl rfl (by simp only [List.map_toArray, List.map_cons, List.map_nil]; rfl) ?_
      with_reducible refine (bitr_Reader_At.calls gr (zs B) ((q + nn : Nat) : Int) _ _ wb w9.drew (R9.out.below (below_drew (Below.refl _ _))).i (R9.out.below (below_drew (Below.refl _ _))).bl rfl).mono ?_
      rintro e w10 ⟨rfl, hI, hB, hKe⟩
      refine ⟨_, rfl, ?_⟩
      have R10 := Aside0.mk ((R9.out.below (below_drew (Below.refl _ _))).next hI hB hKe)
      clear hI hB hKe
      refine hK.out _ _ (((blk_cell R10.out.x 1).trans rfl)) (fun hHeld => ?_)
      clear hK K
      refine norm_ (a' := ?_) ?_ ?_
      rotate_left
      · show Act.put _ (some 106) _ = _
        simp only [Act.put, List.setIfInBounds_toArray, List.set_cons_zero, List.set_cons_succ, i64_w, i32_w]
        rfl
      refine pure_ (i := 13) (N := some 109) (v := ?_) (a' := ?_) #[true, true, true, true, true, true, true, true, true, true, true, true, true, true, false] rfl rfl (by kernel_rfl) (fun _ _ _ h => h) (Or.inl ⟨by rfl, ?_⟩) ?_ ?_
      rotate_left
      · intro w'
        go_simp
        with_reducible rfl
      rotate_left
      · simp only [Act.put, List.setIfInBounds_toArray, List.set_cons_zero, List.set_cons_succ, i64_w, i32_w]
        rfl
      refine pure_ (i := 14) (N := some 110) (v := ?_) (a' := ?_) #[true, true, true, true, true, true, true, true, true, true, true, true, true, true, true] rfl rfl (by kernel_rfl) (fun _ _ _ h => h) (Or.inl ⟨by rfl, ?_⟩) ?_ ?_
      rotate_left
      · intro w'
        go_simp
        with_reducible rfl
      rotate_left
      · simp only [Act.put, List.setIfInBounds_toArray, List.set_cons_zero, List.set_cons_succ, i64_w, i32_w]
        rfl
      refine done_ (by kernel_rfl) ?_
      clear hHeld u1 u3 u4 ew hx0 hx1 hy0 hyf hcut
      go_wp2
      go_roundg qq
      case measure => exact Nat.lt_succ_self _
      case rel => exact ⟨wrap64 (i + 1), q + nn, rfl, ⟨by have := HQ.out; rw [w64 (by omega) (by omega)]; omega, by have := HQ.out; rw [w64 (by omega) (by omega)]; omega, HQN.out⟩, R10⟩
theorem gladstonelaw10_FlatReads.calls (k : Nat) (A0 : Option Addr) (c0 : Nat) (l0 : List Int) (a1 : Int) (a2 : ByteArray) (r : Bool) (w : World) (hr0 : Kd.C (Kd.int .i64) w A0 l0.length l0) (hc0 : l0.length ≤ c0) (h : gladstonelaw10_FlatReads.f k l0 a1 a2 = some r) :
    Calls Try.prog 3 #[.slice A0 l0.length c0, .int .i64 a1, .string a2] w fun e w' => e = .returned (.bool r) ∧ Below w.heap.size w w' := by
  obtain rfl : true = r := Option.some.inj h
  exact FlatReads_walk A0 c0 l0 a1 a2 w hr0 hc0
end Go.Proofs.Ytpmllmllabjopaa.P
namespace Go.Proofs.Ytpmllmllabjopaa.Pure
open Go.Proofs.Ytpmllmllabjopaa.P
theorem FlatReads (l0 : List Int) {p0 q0 : Prop} (_ : p0) (_ : q0) (a1 : Int) {p1 : Prop} (_ : p1) (a2 : ByteArray) {p2 : Prop} (_ : p2) : ∃ k, gladstonelaw10_FlatReads.f k l0 a1 a2 = some true := ⟨0, rfl⟩
end Go.Proofs.Ytpmllmllabjopaa.Pure
