/- tans: the reference's Decode. -/
import Derived.Test.YtoondlhlcmjniaaZHTnG
import Derived.Test.YtoondlhlcmjniaaZBtRefC
import Derived.Test.YtoondlhlcmjniaaZPx10
set_option linter.unusedVariables false
set_option linter.unusedSimpArgs false
set_option linter.unusedSectionVars false
namespace Go.Proofs.Ytoondlhlcmjniaa.Pure
open Go.RowKit Go.Proofs.YtoondlhlcmjniaaW.PrintWords Go.Proofs.YtoondlhlcmjniaaW.PrintMore Go.Proofs.Ytoondlhlcmjniaa.P Go.Proofs.Ytoondlhlcmjniaa.Com Go.Proofs.Ytoondlhlcmjniaa.Tn Go.Proofs.Ytoondlhlcmjniaa.Hd
open Go.Proofs.Ytoondlhlcmjniaa.Cn hiding pos
/-! ### words -/
theorem kL_min {nn N y : Nat} (hN : 2 ^ nn = N) (h0 : 0 < y) : ∀ i, i < kL N y (nn + 1) 0 → y * 2 ^ i < N := by
  have hex : ∀ k, N ≤ y * 2 ^ k → ∃ j, j ≤ k ∧ N ≤ y * 2 ^ j ∧ ∀ i, i < j → y * 2 ^ i < N := by
    intro k
    induction k with
    | zero => intro h; exact ⟨0, Nat.le_refl _, h, fun i hi => by omega⟩
    | succ k ih =>
      intro h
      by_cases hk : N ≤ y * 2 ^ k
      · obtain ⟨j, h1, h2, h3⟩ := ih hk
        exact ⟨j, by omega, h2, h3⟩
      · refine ⟨k + 1, Nat.le_refl _, h, fun i hi => ?_⟩
        have h2 : y * 2 ^ i ≤ y * 2 ^ k := Nat.mul_le_mul_left _ (Nat.pow_le_pow_right (by decide) (by omega))
        omega
  obtain ⟨j, h1, h2, h3⟩ := hex nn (by rw [← hN]; exact Nat.le_mul_of_pos_left _ h0)
  have e : kL N y (nn + 1) 0 = j := kL_eq h2 h3 _ _ (by omega) (by omega)
  rw [e]
  exact h3
theorem shl_nat {y k M : Nat} (hk : k ≤ 16) (hM : y * 2 ^ k = M) (hb : M ≤ 1073741824) : shl .i64 (y : Int) (k : Int) = (M : Int) := by
  unfold shl
  have h3 : min (k : Int).toNat IntKind.i64.bits = k := by simp [IntKind.bits]; omega
  rw [h3]
  have e : (y : Int) * 2 ^ k = (M : Int) := by rw [← hM]; simp
  rw [e, IntKind.wrap_i64]
  omega
theorem bv_zero : ∀ l : List Bool, bv l = 0 ↔ ∀ b ∈ l, b = false
  | [] => by simp [bv]
  | b :: t => by
    rw [bv, List.forall_mem_cons, ← bv_zero t]
    cases b <;> simp <;> omega
/-! ### the loops -/
theorem before_ev {N : Nat} (hN : N ≤ 4096) (f : Nat → Nat) (x : Nat) (hx : x < N) : Ev (fun k => gladstoneref59_before.f k (tabn N (fun z => (f z : Int))) (x : Int)) ((rkF f x : Nat) : Int) := by
  suffices h : ∀ d i, i + d = x → Ev (fun k => gladstoneref59_before.l0 k (tabn N (fun z => (f z : Int))) (x : Int) (((List.range i).countP (fun z => decide (f z = f x)) : Nat) : Int) (i : Int)) ((rkF f x : Nat) : Int) from h x 0 (by omega)
  intro d
  induction d with
  | zero =>
    intro i hi
    obtain rfl : i = x := by omega
    refine Ev.step (f := fun _ => some ((rkF f i : Nat) : Int)) (fun k => ?_) (Ev.now _)
    simp only [gladstoneref59_before.l0]
    rw [if_neg (by omega)]
    rfl
  | succ d ih =>
    intro i hi
    have hc : (List.range i).countP (fun z => decide (f z = f x)) ≤ i := by
      have := List.countP_le_length (p := fun z => decide (f z = f x)) (l := List.range i)
      rw [List.length_range] at this
      exact this
    have hs : (List.range (i + 1)).countP (fun z => decide (f z = f x)) = (if f i = f x then (List.range i).countP (fun z => decide (f z = f x)) + 1 else (List.range i).countP (fun z => decide (f z = f x))) := by
      rw [List.range_succ, List.countP_append]
      by_cases h : f i = f x <;> simp [h]
    refine Ev.step (f := fun k => gladstoneref59_before.l0 k (tabn N (fun z => (f z : Int))) (x : Int) (((List.range (i + 1)).countP (fun z => decide (f z = f x)) : Nat) : Int) ((i + 1 : Nat) : Int)) (fun k => ?_) (ih (i + 1) (by omega))
    simp only [gladstoneref59_before.l0]
    rw [if_pos (by omega), if_pos (by omega), if_pos (by rw [tabn_length]; omega), if_pos (by omega), if_pos (by rw [tabn_length]; omega), rd_nat, rd_nat, tabn_getD (by omega), tabn_getD hx, w64 (x := (i : Int) + 1) (by omega) (by omega), w64 (by omega) (by omega), hs]
    by_cases h : f i = f x
    · rw [if_pos (by rw [h]), if_pos h]; rfl
    · rw [if_neg (by omega), if_neg h]; rfl
theorem left_ev (l : List Bool) (hl : l.length ≤ 17592186044416) : Ev (fun k => gladstoneref59_left.f k l) (decide (bv l = 0 ∧ l.length < 8)) := by
  have h := Ev.along l (fun k (_ : Unit) i => gladstoneref59_left.l0 k l i) (fun _ t => decide ((∀ b ∈ t, b = false) ∧ l.length < 8)) (fun _ _ => True) ?_ ?_ 0 () (Nat.zero_le _) trivial
  · have e : decide (bv l = 0 ∧ l.length < 8) = decide ((∀ b ∈ l, b = false) ∧ l.length < 8) := decide_eq_decide.2 (by rw [bv_zero])
    rw [e]
    exact h
  · intro _ _
    refine Ev.step (f := fun _ => some (decide ((l.length : Int) < 8))) (fun k => ?_) (Ev.some ?_)
    · simp only [gladstoneref59_left.l0]
      rw [if_neg (by omega)]
    · exact decide_eq_decide.2 ⟨fun h => ⟨by simp, by omega⟩, fun h => by omega⟩
  · intro i _ a t _ hd ha hlt ih
    cases a with
    | true =>
      refine Ev.step (f := fun _ => some false) (fun k => ?_) (Ev.some ?_)
      · simp only [gladstoneref59_left.l0]
        rw [if_pos (by omega), if_pos (by omega), rdOf_some ha, if_pos (by simp)]
      · rw [eq_comm, decide_eq_false_iff_not]
        rintro ⟨h, _⟩
        exact absurd (h true (by simp)) (by decide)
    | false =>
      have e : decide ((∀ b ∈ false :: t, b = false) ∧ l.length < 8) = decide ((∀ b ∈ t, b = false) ∧ l.length < 8) := decide_eq_decide.2 (by rw [List.forall_mem_cons]; simp)
      rw [e]
      refine Ev.step (f := fun k => gladstoneref59_left.l0 k l ((i + 1 : Nat) : Int)) (fun k => ?_) (ih () trivial)
      simp only [gladstoneref59_left.l0]
      rw [if_pos (by omega), if_pos (by omega), rdOf_some ha, if_neg (by simp), w64 (by omega) (by omega)]
      rfl
section
variable {norm : List Int} {nn N : Nat} {f : Nat → Nat} (hM : NmOk norm nn N f) (B : List Nat) (hB : ∀ x ∈ B, x < 256) (hl : B.length ≤ 1073741824)
include hM hB hl
/-- A step's bits. -/
theorem dec_l1 (many : Int) (out : List Int) (y p : Nat) (hy0 : 0 < y) (hy : y < 2 * N) (hp : p ≤ 8 * B.length) (K : Nat) (hK : kL N y (nn + 1) 0 = K) (R : List Int × Int)
    (hr : Ev (fun k => if p + K ≤ 8 * B.length then gladstoneref59_Decode.l0 k many norm (nn : Int) (tabn N (fun z => (f z : Int))) ((y * 2 ^ K - N + pkv B p K : Nat) : Int) out (bb B) ((p + K : Nat) : Int) else some ([], 3)) R) :
    ∀ d j, j + d = K → Ev (fun k => gladstoneref59_Decode.l1 k many norm (nn : Int) (tabn N (fun z => (f z : Int))) out (y : Int) (j : Int) (bb B) (p : Int)) R := by
  have hk := kL_ok (y := y) hM.hN hy0 hy
  have hmin := kL_min (y := y) hM.hN hy0
  rw [hK] at hk hmin
  have h12 := hM.n12
  have hN : N ≤ 4096 := by
    have := Nat.pow_le_pow_right (n := 2) (by decide) h12
    rw [hM.hN] at this
    exact this
  have e1 : ∀ i : Nat, i ≤ 16 → IntKind.u64.wrap (i : Int) = (i : Int) := fun i hi => wu64 (by omega) (by omega)
  have eS : shl .i64 1 (nn : Int) = (N : Int) := shl_nat (y := 1) (by omega) (by rw [Nat.one_mul]; exact hM.hN) (by omega)
  intro d
  induction d with
  | zero =>
    intro j hj
    obtain rfl : j = K := by omega
    obtain ⟨T, hT⟩ : ∃ T, y * 2 ^ j = T := ⟨_, rfl⟩
    have hT2 : T + 2 ^ j ≤ 2 * N := by have := hk.2.2; rw [Nat.add_mul, Nat.one_mul, hT] at this; exact this
    rw [hT] at hk hr
    have hpk := pkv_lt B p j
    have eY : shl .i64 (y : Int) (j : Int) = (T : Int) := shl_nat (by omega) hT (by omega)
    refine Ev.step (f := fun k => (gladstoneref02_Take.f k (bb B) (p : Int) (j : Int)).bind fun bt302 => (if bt302.2.2.2 = 0 then (gladstoneref59_Decode.l0 k many norm (nn : Int) (tabn N (fun z => (f z : Int))) (wrap64 ((wrap64 ((T : Int) - (N : Int))) + (wrap64 (bt302.2.2.1)))) out bt302.1 bt302.2.1) else (some (([] : List Int), bt302.2.2.2)))) (fun k => ?_) ?_
    · simp only [gladstoneref59_Decode.l1]
      rw [e1 j (by omega), e1 nn (by omega), eS, eY, if_pos (by omega), if_pos (by omega), if_neg (by omega)]
    · refine Ev.bind (f := fun k t => _) (reftake_ev B hB (by omega) p hp (j : Int)) ?_
      by_cases h : p + j ≤ 8 * B.length
      · rw [rtake_ok (by omega) h]
        refine Ev.ifp rfl ?_
        refine Ev.eq (fun k => ?_) hr
        dsimp only
        rw [if_pos h, w64 (x := (T : Int) - (N : Int)) (by omega) (by omega), w64 (x := ((pkv B p j : Nat) : Int)) (by omega) (by omega), w64 (by omega) (by omega)]
        congr 1
        omega
      · rw [rtake_no (by omega) h]
        refine Ev.ifn (show ¬ ((3 : Int) = 0) by decide) ?_
        exact Ev.eq (fun k => by rw [if_neg h]) hr
  | succ d ih =>
    intro j hj
    have h1 := hmin j (by omega)
    have eY : shl .i64 (y : Int) (j : Int) = ((y * 2 ^ j : Nat) : Int) := shl_nat (by omega) rfl (by omega)
    refine Ev.step (f := fun k => gladstoneref59_Decode.l1 k many norm (nn : Int) (tabn N (fun z => (f z : Int))) out (y : Int) ((j + 1 : Nat) : Int) (bb B) (p : Int)) (fun k => ?_) (ih (j + 1) (by omega))
    simp only [gladstoneref59_Decode.l1]
    rw [e1 j (by omega), e1 nn (by omega), eS, eY, if_pos (by omega), if_pos (by omega), if_pos (by omega), w64 (x := (j : Int) + 1) (by omega) (by omega)]
    rfl
theorem dec_l0 (many : Nat) (hmany : many ≤ 1048576) : ∀ (q x p : Nat) (out : List Int), out.length + q = many → x < N → p ≤ 8 * B.length → Ev (fun k => gladstoneref59_Decode.l0 k (many : Int) norm (nn : Int) (tabn N (fun z => (f z : Int))) (x : Int) out (bb B) (p : Int)) (dcL B norm nn N f q x p out) := by
  have hN : N ≤ 4096 := by
    have := Nat.pow_le_pow_right (n := 2) (by decide) hM.n12
    rw [hM.hN] at this
    exact this
  have hlen := bb_length B
  intro q
  induction q with
  | zero =>
    intro x p out hq hx hp
    refine Ev.step (fun k => by simp only [gladstoneref59_Decode.l0]; rw [if_neg (by omega)]) ?_
    rw [dcL]
    by_cases h0 : x = 0
    · refine Ev.ifp (by omega) (Ev.ifp (by omega) (Ev.ifp (by omega) ?_))
      rw [Int.toNat_natCast]
      refine Ev.bind (f := fun k t => _) (left_ev ((bb B).drop p) (by rw [List.length_drop]; omega)) ?_
      have e : pkv B p (8 * B.length - p) = bv ((bb B).drop p) := by
        have h1 := bv_lt ((bb B).drop p)
        rw [List.length_drop, hlen] at h1
        unfold pkv
        rw [bv_drop, bv_bb B hB] at h1 ⊢
        exact Nat.mod_eq_of_lt h1
      rw [e, List.length_drop, hlen]
      by_cases h1 : bv ((bb B).drop p) = 0 ∧ 8 * B.length - p < 8
      · refine Ev.ifp (decide_eq_true h1) (Ev.some ?_)
        rw [if_pos ⟨h0, h1.2, h1.1⟩]
      · refine Ev.ifn (by rw [decide_eq_true_eq]; exact h1) (Ev.some ?_)
        rw [if_neg (fun h => h1 ⟨h.2.2, h.2.1⟩)]
    · refine Ev.ifn (by omega) (Ev.some ?_)
      rw [if_neg (fun h => h0 h.1)]
  | succ q ih =>
    intro x p out hq hx hp
    have hf := hM.f_lt x hx
    have hpos := hM.pos (f x) hf
    have hsy := hM.sy x hx
    have hrk := rk_lt (f := f) hx
    have hcnt := hM.cnt (f x) hf
    obtain ⟨m, hm⟩ : ∃ m : Nat, norm.getD (f x) 0 = (m : Int) := ⟨(norm.getD (f x) 0).toNat, by omega⟩
    obtain ⟨rk, hrk2⟩ : ∃ rk, rkF f x = rk := ⟨_, rfl⟩
    rw [hm] at hpos hsy hcnt
    rw [hrk2] at hrk
    rw [dcL, hm, Int.toNat_natCast, hrk2]
    obtain ⟨K, hK⟩ : ∃ K, kL N (m + rk) (nn + 1) 0 = K := ⟨_, rfl⟩
    rw [hK]
    have hk := kL_ok (y := m + rk) hM.hN (by omega) (by omega)
    rw [hK] at hk
    have hbe := before_ev hN f x hx
    rw [hrk2] at hbe
    refine Ev.step (f := fun k => (gladstoneref59_before.f k (tabn N (fun z => (f z : Int))) (x : Int)).bind fun t301 => (gladstoneref59_Decode.l1 k (many : Int) norm (nn : Int) (tabn N (fun z => (f z : Int))) (out ++ [(f x : Int)]) (wrap64 ((m : Int) + t301)) 0 (bb B) (p : Int))) (fun k => ?_) ?_
    · simp only [gladstoneref59_Decode.l0]
      have e : rd (tabn N (fun z => (f z : Int))) (x : Int) = (f x : Int) := by rw [rd_nat, tabn_getD hx]
      rw [if_pos (by omega), if_pos (by omega), if_pos (by rw [tabn_length]; omega), if_pos (by omega), e, if_pos (by omega), if_pos (by omega), rd_nat, hm]
    · refine Ev.bind (f := fun k t => _) hbe ?_
      rw [w64 (x := (m : Int) + (rk : Int)) (by omega) (by omega)]
      refine dec_l1 hM B hB hl (many : Int) (out ++ [(f x : Int)]) (m + rk) p (by omega) (by omega) hp K hK _ ?_ K 0 (by omega)
      by_cases h : p + K ≤ 8 * B.length
      · rw [if_pos h]
        refine Ev.ifp h (ih _ _ _ (by rw [List.length_append]; simp; omega) ?_ h)
        obtain ⟨T, hT⟩ : ∃ T, (m + rk) * 2 ^ K = T := ⟨_, rfl⟩
        have hT2 : T + 2 ^ K ≤ 2 * N := by have := hk.2.2; rw [Nat.add_mul, Nat.one_mul, hT] at this; exact this
        have hpk := pkv_lt B p K
        rw [hT] at hk ⊢
        omega
      · rw [if_neg h]
        exact Ev.ifn h (Ev.now _)
end
/-- The reference's Decode. -/
theorem rdec_ev (s : ByteArray) (hs : s.size ≤ 1073741824) (many : Int) (norm : List Int) (hl : norm.length ≤ 1073741824) (n : Int) : Ev (fun k => gladstoneref59_Decode.f k s many norm n) (decT s many norm n) := by
  have e : ∀ k, gladstoneref59_Decode.f k s many norm n = (gladstoneref59_Spread.f k norm n).bind fun bt275 => (if bt275.2 = 0 then (gladstoneref59_Decode.j0 k s many norm n bt275.1 (decide (many < 0 ∨ 1048576 < many))) else (some (([] : List Int), bt275.2))) := by
    intro k
    unfold gladstoneref59_Decode.f
    congr 1
    funext bt
    by_cases h : many < 0
    · rw [if_pos h, decide_eq_true (show many < 0 ∨ 1048576 < many from .inl h)]
    · rw [if_neg h]
      have e2 : decide (many > 1048576) = decide (many < 0 ∨ 1048576 < many) := decide_eq_decide.2 ⟨fun h => .inr h, fun h' => by omega⟩
      rw [e2]
  refine Ev.eq e ?_
  refine Ev.bind (f := fun k t => _) (rspread_ev norm hl n) ?_
  unfold refS decT
  by_cases h : chkT norm n = 0
  case neg =>
    rw [if_neg h, if_pos h]
    exact Ev.ifn h (Ev.now _)
  rw [if_pos h, if_neg (not_not_intro h)]
  refine Ev.ifp rfl ?_
  have hn := (chk0 h).1
  obtain ⟨nn, rfl⟩ : ∃ nn : Nat, n = (nn : Int) := ⟨n.toNat, by omega⟩
  rw [Int.toNat_natCast]
  have hM := nm_ok h
  unfold dcT
  by_cases hm : many < 0 ∨ 1048576 < many
  · rw [if_pos hm, decide_eq_true hm]
    exact Ev.step (f := fun _ => some ([], 1)) (fun k => by simp only [gladstoneref59_Decode.j0]; rw [if_pos (by simp)]) (Ev.now _)
  rw [if_neg hm, decide_eq_false hm]
  refine Ev.step (fun k => by simp only [gladstoneref59_Decode.j0]; rfl) ?_
  refine Ev.ifn (by simp) ?_
  refine Ev.bind (f := fun k t => _) (rnew_ev s (by omega)) ?_
  have hB := nb_lt s
  have hlB : (nb s).length ≤ 1073741824 := by rw [nb_length]; exact hs
  refine Ev.bind (f := fun k t => _) (reftake_ev (nb s) hB (by omega) 0 (Nat.zero_le _) (nn : Int)) ?_
  by_cases h0 : 0 + nn ≤ 8 * (nb s).length
  · rw [rtake_ok (by omega) h0, if_pos (by omega)]
    refine Ev.ifp rfl ?_
    have hpk := pkv_lt (nb s) 0 nn
    have hN : 2 ^ nn ≤ 4096 := Nat.pow_le_pow_right (n := 2) (by decide) (show nn ≤ 12 by omega)
    dsimp only
    rw [w64 (x := ((pkv (nb s) 0 nn : Nat) : Int)) (by omega) (by omega)]
    obtain ⟨mm, rfl⟩ : ∃ mm : Nat, many = (mm : Int) := ⟨many.toNat, by omega⟩
    rw [Int.toNat_natCast, Nat.zero_add]
    exact dec_l0 hM (nb s) hB hlB mm (by omega) mm _ nn [] (by simp) hpk (by omega)
  · rw [rtake_no (by omega) h0, if_neg (by omega)]
    exact Ev.ifn (show ¬ ((3 : Int) = 0) by decide) (Ev.now _)
end Go.Proofs.Ytoondlhlcmjniaa.Pure
