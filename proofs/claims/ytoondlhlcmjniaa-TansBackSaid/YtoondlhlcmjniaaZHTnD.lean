/- tans: Decode, walked by hand; the contracts of Encode and Decode in the print's form. -/
import Derived.Test.YtoondlhlcmjniaaZHTnE
import Derived.Test.YtoondlhlcmjniaaZPureTnA
import Derived.Test.YtoondlhlcmjniaaZBtRdB
import Derived.Test.YtoondlhlcmjniaaZHNewB
import Derived.Test.YtoondlhlcmjniaaZPx5
set_option linter.unusedVariables false
set_option linter.unusedSimpArgs false
set_option linter.unusedSectionVars false
namespace Go.Proofs.Ytoondlhlcmjniaa.Hd
open Go Go.RowKit Go.Shelf Go.Proofs.YtoondlhlcmjniaaW.PrintWords Go.Proofs.YtoondlhlcmjniaaW.PrintLast Go.Proofs.YtoondlhlcmjniaaW.PrintMore Go.Proofs.Ytoondlhlcmjniaa.Hw Go.Proofs.Ytoondlhlcmjniaa.Com Go.Proofs.Ytoondlhlcmjniaa.P Go.Proofs.Ytoondlhlcmjniaa.Tn Go.Proofs.Ytoondlhlcmjniaa.Pure
open Go.Proofs.Ytoondlhlcmjniaa.Cn hiding pos
attribute [local go_sem] max2_int min2_int max_two min_two max_three min_three max_four min_four
theorem zs_bytes (s : ByteArray) : bytesOf s = zs (nb s) := by simp [bytesOf, zs, nb]
theorem take_ev (B : List Nat) (hB : ∀ x ∈ B, x < 256) (hl : B.length ≤ 1099511627776) (p : Nat) (hp : p ≤ 8 * B.length) (a : Int) : Ev (fun k => bitr_Reader_Take.f k (zs B) (p : Int) a) (rtake B p a) := by
  unfold bitr_Reader_Take.f
  refine Ev.bind (peek_ev B hB hl p hp a) (Ev.bind (skip_ev B hl p hp a) ?_)
  unfold rtake rskip rpeek
  cases hw : inW a with
  | false => exact Ev.ifn (by simp) (Ev.now _)
  | true =>
    simp only [if_true]
    by_cases h : p + a.toNat ≤ 8 * B.length
    · rw [if_pos h, if_pos h]; exact Ev.ifp rfl (Ev.now _)
    · rw [if_neg h, if_neg h]; exact Ev.ifn (by simp) (Ev.now _)
/-- How often a number is doubled. -/
theorem kL_ok {nn N y : Nat} (hN : 2 ^ nn = N) (h0 : 0 < y) (hy : y < 2 * N) : kL N y (nn + 1) 0 ≤ nn ∧ N ≤ y * 2 ^ kL N y (nn + 1) 0 ∧ (y + 1) * 2 ^ kL N y (nn + 1) 0 ≤ 2 * N := by
  have hex : ∀ k, N ≤ y * 2 ^ k → ∃ j, j ≤ k ∧ N ≤ y * 2 ^ j ∧ ∀ i, i < j → y * 2 ^ i < N := by
    intro k
    induction k with
    | zero => intro h; exact ⟨0, Nat.le_refl _, h, fun i hi => by omega⟩
    | succ k ih =>
      intro h
      by_cases hk : N ≤ y * 2 ^ k
      · obtain ⟨j, h1, h2, h3⟩ := ih hk
        exact ⟨j, by omega, h2, h3⟩
      · refine ⟨k + 1, Nat.le_refl _, h, fun i hi => ?_⟩
        have h2 : y * 2 ^ i ≤ y * 2 ^ k := Nat.mul_le_mul_left _ (Nat.pow_le_pow_right (by decide) (by omega))
        omega
  obtain ⟨j, h1, h2, h3⟩ := hex nn (by rw [← hN]; exact Nat.le_mul_of_pos_left _ h0)
  have e : kL N y (nn + 1) 0 = j := kL_eq h2 h3 _ _ (by omega) (by omega)
  rw [e]
  refine ⟨h1, h2, ?_⟩
  have h4 : y * 2 ^ j < 2 * N := by
    cases j with
    | zero => rw [Nat.pow_zero, Nat.mul_one]; exact hy
    | succ j =>
      have := h3 j (by omega)
      rw [Nat.pow_succ, ← Nat.mul_assoc]; omega
  have e2 : 2 * N = 2 ^ (nn + 1 - j) * 2 ^ j := by rw [← Nat.pow_add, ← hN, show nn + 1 - j + j = nn + 1 by omega, Nat.pow_succ]; omega
  rw [e2] at h4 ⊢
  exact Nat.mul_le_mul_right _ (Nat.lt_of_mul_lt_mul_right h4)
/-- Symbols, one behind the other. -/
def dcL (B : List Nat) (norm : List Int) (nn N : Nat) (f : Nat → Nat) : Nat → Nat → Nat → List Int → List Int × Int
  | 0, x, p, out => if x = 0 ∧ 8 * B.length - p < 8 ∧ pkv B p (8 * B.length - p) = 0 then (out, 0) else ([], 4)
  | q + 1, x, p, out =>
    if p + kL N ((norm.getD (f x) 0).toNat + rkF f x) (nn + 1) 0 ≤ 8 * B.length then
      dcL B norm nn N f q (((norm.getD (f x) 0).toNat + rkF f x) * 2 ^ kL N ((norm.getD (f x) 0).toNat + rkF f x) (nn + 1) 0 - N + pkv B p (kL N ((norm.getD (f x) 0).toNat + rkF f x) (nn + 1) 0)) (p + kL N ((norm.getD (f x) 0).toNat + rkF f x) (nn + 1) 0) (out ++ [(f x : Int)])
    else ([], 3)
/-- The whole. -/
def dcT (B : List Nat) (many : Int) (norm : List Int) (nn N : Nat) (f : Nat → Nat) : List Int × Int :=
  if many < 0 ∨ 1048576 < many then ([], 1) else if nn ≤ 8 * B.length then dcL B norm nn N f many.toNat (pkv B 0 nn) nn [] else ([], 3)
theorem pkv_lt (B : List Nat) (p n : Nat) : pkv B p n < 2 ^ n := Nat.mod_lt _ (Nat.two_pow_pos _)
theorem rtake_ok {B : List Nat} {p k : Nat} (hk : k ≤ 56) (h : p + k ≤ 8 * B.length) : rtake B p (k : Int) = ((pkv B p k : Int), 0, ((p + k : Nat) : Int)) := by
  unfold rtake
  rw [show inW (k : Int) = true from decide_eq_true ⟨by omega, by omega⟩, if_pos rfl, Int.toNat_natCast, if_pos h]
theorem rtake_no {B : List Nat} {p k : Nat} (hk : k ≤ 56) (h : ¬ p + k ≤ 8 * B.length) : rtake B p (k : Int) = (0, 3, (p : Int)) := by
  unfold rtake
  rw [show inW (k : Int) = true from decide_eq_true ⟨by omega, by omega⟩, if_pos rfl, Int.toNat_natCast, if_neg h]
theorem ev_get {α : Type} {g : Nat → Option α} {r : α} (h : Ev g r) : ∃ k, g k = some r := by
  obtain ⟨k, h⟩ := h
  exact ⟨k, h k (Nat.le_refl _)⟩
/-- A step of the reader's. -/
theorem Take_B (wb W : World) (gr : Nat) (B : List Nat) (p : Nat) (k : Nat) (hB : ∀ x ∈ B, x < 256) (hl : B.length ≤ 1099511627776) (hp : p ≤ 8 * B.length) (hI : IsS86 wb W gr (zs B) (p : Int)) (hb : Below wb.heap.size wb W) (r : Int × Int × Int) (hr : rtake B p (k : Int) = r) :
    Calls Try.prog 25 #[.pointer (some ⟨gr, 0, none⟩), .int .i64 (k : Int)] W fun e w' => e = .returned (.tuple #[.int .u64 r.1, .int .i64 r.2.1]) ∧ IsS86 wb w' gr (zs B) r.2.2 ∧ Below wb.heap.size wb w' ∧ KeepBut W w' gr none := by
  obtain ⟨k0, h0⟩ := ev_get (take_ev B hB hl p hp (k : Int))
  rw [hr] at h0
  exact bitr_Reader_Take.calls k0 gr (zs B) (p : Int) (k : Int) r.1 r.2.1 r.2.2 wb W hI hb h0
/-- A new reader. -/
theorem New_B (s : ByteArray) (B : List Nat) (w : World) (hB : nb s = B) (hs : s.size ≤ 17592186044416) :
    Calls Try.prog 24 #[.string s] w fun e w' => ∃ (gr : Nat) (wb : World), e = .returned (.pointer (some ⟨gr, 0, none⟩)) ∧ IsS86 wb w' gr (zs B) ((0 : Nat) : Int) ∧ Below wb.heap.size wb w' ∧ Below w.heap.size w w' ∧ Below w.heap.size w wb := by
  refine bitr_New.calls s (zs B) 0 w w (Below.refl _ _) ?_
  unfold bitr_New.f
  rw [if_pos hs, ← hB, zs_bytes]
set_option maxHeartbeats 4000000 in
set_option maxRecDepth 100000 in
theorem dec_err (A0 : Option Addr) (c0 : Nat) (norm : List Int) (s : ByteArray) (many n e : Int) (kk : Nat) (w : World) (hC : Kd.C (Kd.int .i64) w A0 norm.length norm) (hc0 : norm.length ≤ c0) (hk : tans_check.f kk norm n = some e)
    (h : e ≠ 0 ∨ (e = 0 ∧ (many < 0 ∨ 1048576 < many))) :
    Calls Try.prog 12 #[.string s, .int .i64 many, .slice A0 norm.length c0, .int .i64 n] w fun r w' => r = .returned (.tuple #[.slice none 0 0, .int .i64 (if e ≠ 0 then e else 1)]) ∧ Below w.heap.size w w' := by
  have HC := Aside0.mk hC
  have HK := Aside0.mk hk
  have HN := Aside0.mk hc0
  clear hC hk hc0
  by_cases h1 : e ≠ 0
  · have t1 : (e != 0) = true := bne_iff_ne.mpr h1
    rw [if_pos h1]
    clear h h1
    go_enter Try.func12, Try.ntmps12
    go_wp2_with (first
      | (go_at_call 21; (with_reducible refine (tans_check.calls kk A0 c0 norm n e _ HC.out HN.out HK.out).mono ?_); rintro r w1 ⟨rfl, hd⟩; have B1 := Aside0.mk (drawn_b hd); clear hd))
    go_ret2
    exact ⟨rfl, B1.out⟩
  · have he : e = 0 := by omega
    subst he
    rw [if_neg h1]
    have h2 : many < 0 ∨ 1048576 < many := by
      rcases h with h | h
      · exact absurd rfl h
      · exact h.2
    by_cases h3 : many < 0
    · have t1 : decide (many < 0) = true := decide_eq_true h3
      clear h h1 h2 h3
      go_enter Try.func12, Try.ntmps12
      go_wp2_with (first
        | (go_at_call 21; (with_reducible refine (tans_check.calls kk A0 c0 norm n 0 _ HC.out HN.out HK.out).mono ?_); rintro r w1 ⟨rfl, hd⟩; have B1 := Aside0.mk (drawn_b hd); clear hd))
      go_ret2
      exact ⟨rfl, B1.out⟩
    · have t1 : decide (many < 0) = false := decide_eq_false h3
      have t2 : decide (1048576 < many) = true := decide_eq_true (by omega)
      clear h h1 h2 h3
      go_enter Try.func12, Try.ntmps12
      go_wp2_with (first
        | (go_at_call 21; (with_reducible refine (tans_check.calls kk A0 c0 norm n 0 _ HC.out HN.out HK.out).mono ?_); rintro r w1 ⟨rfl, hd⟩; have B1 := Aside0.mk (drawn_b hd); clear hd))
      go_ret2
      exact ⟨rfl, B1.out⟩
theorem rd_keep {wb W W1 : World} {gr : Nat} {f0 : List Int} {f1 : Int} {v : Value} {l : List Int} (hI : IsS86 wb W gr f0 f1) (hR : Kd.R (Kd.int .i64) 3 W wb.heap.size (fun _ => True) v l) (hk : KeepBut W W1 gr none) : Kd.R (Kd.int .i64) 3 W1 wb.heap.size (fun _ => True) v l :=
  Kd.R_mono (Kd.R_keep (hI.apart hR (by intro q hq; simp [Kd.int, Kd.scalar] at hq; subst hq; decide)) hk (fun _ h => h.2)) (fun _ _ => trivial)
set_option maxHeartbeats 8000000 in
set_option maxRecDepth 100000 in
theorem dec_main (A0 : Option Addr) (c0 : Nat) (norm : List Int) (s : ByteArray) (B : List Nat) (many nn N : Nat) (f : Nat → Nat) (kk k2 : Nat) (w : World) (hC : Kd.C (Kd.int .i64) w A0 norm.length norm) (hc0 : norm.length ≤ c0) (hk : tans_check.f kk norm (nn : Int) = some 0)
    (hM : NmOk norm nn N f) (hk2 : tans_spread.f k2 norm (nn : Int) = some (tabn N (fun x => (f x : Int)))) (hm : many ≤ 1048576) (hs : s.size ≤ 1099511627776) (hB : nb s = B) (r1 : List Int) (r2 : Int) (hR : dcT B (many : Int) norm nn N f = (r1, r2)) :
    Calls Try.prog 12 #[.string s, .int .i64 (many : Int), .slice A0 norm.length c0, .int .i64 (nn : Int)] w fun e w' => ∃ v0_ : Value, e = .returned (.tuple #[v0_, .int .i64 r2]) ∧ Kd.R (Kd.int .i64) 3 w' w.heap.size (fun _ => True) v0_ r1 ∧ Below w.heap.size w w' := by
  have HC := Aside0.mk hC
  have HK := Aside0.mk hk
  have HK2 := Aside0.mk hk2
  have HM := Aside0.mk hM
  have HN := Aside0.mk hc0
  have HS := Aside0.mk (And.intro hs hB)
  have HMA := Aside0.mk hm
  have HN12 := Aside0.mk (show N ≤ 4096 by rw [← hM.hN]; exact Nat.pow_le_pow_right (n := 2) (by decide) hM.n12)
  have HB := Aside0.mk (show (∀ x ∈ B, x < 256) ∧ B.length ≤ 1099511627776 from by subst hB; exact ⟨nb_lt s, by rw [nb_length]; exact hs⟩)
  unfold dcT at hR
  rw [if_neg (by omega), Int.toNat_natCast] at hR
  have t1 : decide ((many : Int) < 0) = false := decide_eq_false (by omega)
  have t2 : decide (1048576 < (many : Int)) = false := decide_eq_false (by omega)
  clear hC hc0 hk hM hk2 hs hB hm
  by_cases h0 : nn ≤ 8 * B.length
  case neg =>
    rw [if_neg h0] at hR
    obtain ⟨rfl, rfl⟩ : ([] : List Int) = r1 ∧ (3 : Int) = r2 := by cases hR; exact ⟨rfl, rfl⟩
    have HT0 := Aside0.mk (rtake_no (B := B) (p := 0) (k := nn) (by have := HM.out.n12; omega) (by omega))
    clear hR h0
    go_enter Try.func12, Try.ntmps12
    go_wp2_with (first
      | (go_at_call 21; (with_reducible refine (tans_check.calls kk A0 c0 norm (nn : Int) 0 _ HC.out HN.out HK.out).mono ?_); rintro r w1 ⟨rfl, hd⟩; have B1 := Aside0.mk (drawn_b hd); clear hd)
      | (go_at_call 23; (with_reducible refine (fresh_ok A0 c0 norm nn N f k2 w1 (Kd.C_below HC.out B1.out) HN.out HK2.out HM.out.f_lt HN12.out HM.out.len).mono ?_); rintro r w2 ⟨g, rfl, hT, hg, hb⟩; have T2 := Aside0.mk hT; have B2 := Aside0.mk (below_step B1.out hb); clear hb hT hg)
      | (go_at_call 24; (with_reducible refine (New_B s B w2 HS.out.2 (by have := HS.out.1; omega)).mono ?_); rintro r w3 ⟨gr, wb, rfl, hI, hb1, hb2, hb3⟩; have I3 := Aside0.mk (And.intro hI hb1); have BW := Aside0.mk (below_step B2.out hb3); have TW := Aside0.mk (T2.out.below hb3); clear hI hb1 hb2 hb3)
      | (go_at_call 25; (with_reducible refine (Take_B wb w3 gr B 0 nn HB.out.1 HB.out.2 (by omega) I3.out.1 I3.out.2 _ HT0.out).mono ?_); rintro r w4 ⟨rfl, hI, hb, hk⟩; have I4 := Aside0.mk (And.intro hI hb); clear hI hb hk))
    go_ret2
    exact ⟨_, rfl, Kd.R_nil _ _ _ _ _, below_step BW.out I4.out.2⟩
  rw [if_pos h0] at hR
  have HT0 := Aside0.mk (rtake_ok (B := B) (p := 0) (k := nn) (by have := HM.out.n12; omega) (by omega))
  have HR := Aside0.mk hR
  obtain ⟨x0, hx0⟩ : ∃ x0, pkv B 0 nn = x0 := ⟨_, rfl⟩
  have HX0 := Aside0.mk (show x0 < N from by rw [← hx0, ← HM.out.hN]; exact pkv_lt _ _ _)
  rw [hx0] at HT0 HR
  rw [Nat.zero_add] at HT0
  have HP0 := Aside0.mk h0
  have EW := Aside0.mk (show IntKind.i64.wrap (x0 : Int) = (x0 : Int) from by have := HX0.out; have := HN12.out; rw [IntKind.wrap_i64]; omega)
  have EW2 := Aside0.mk (show wrap64 (x0 : Int) = (x0 : Int) from by have := HX0.out; have := HN12.out; exact w64 (by omega) (by omega))
  clear hR h0 hx0
  go_enter Try.func12, Try.ntmps12
  go_wp2_with (first
    | (go_at_call 21; (with_reducible refine (tans_check.calls kk A0 c0 norm (nn : Int) 0 _ HC.out HN.out HK.out).mono ?_); rintro r w1 ⟨rfl, hd⟩; have B1 := Aside0.mk (drawn_b hd); clear hd)
    | (go_at_call 23; (with_reducible refine (fresh_ok A0 c0 norm nn N f k2 w1 (Kd.C_below HC.out B1.out) HN.out HK2.out HM.out.f_lt HN12.out HM.out.len).mono ?_); rintro r w2 ⟨g, rfl, hT, hg, hb⟩; have T2 := Aside0.mk hT; have B2 := Aside0.mk (below_step B1.out hb); clear hb hT hg)
    | (go_at_call 24; (with_reducible refine (New_B s B w2 HS.out.2 (by have := HS.out.1; omega)).mono ?_); rintro r w3 ⟨gr, wb, rfl, hI, hb1, hb2, hb3⟩; have I3 := Aside0.mk (And.intro hI hb1); have BW := Aside0.mk (below_step B2.out hb3); have TW := Aside0.mk (T2.out.below hb3); clear hI hb1 hb2 hb3)
    | (go_at_call 25; (with_reducible refine (Take_B wb w3 gr B 0 nn HB.out.1 HB.out.2 (by omega) I3.out.1 I3.out.2 _ HT0.out).mono ?_); rintro r w4 ⟨rfl, hI, hb, hk⟩; have I4 := Aside0.mk (And.intro hI hb); clear hI hb hk))
  rw [EW2.out]
  clear EW EW2 T2 B1 B2 I3 HC HK HK2 t1 t2
  have A0 := Aside0.mk HR.out
  go_loopg [15, 16] many (fun q v15 v16 w' => ∃ (x p : Nat) (out : List Int) (v : Value), v15 = .int .i64 (x : Int) ∧ v16 = v ∧ Aside0 (out.length + q = many ∧ x < N ∧ p ≤ 8 * B.length) ∧ Aside0 (dcL B norm nn N f q x p out = (r1, r2)) ∧ Aside0 (IsS86 wb w' gr (zs B) (p : Int)) ∧ Aside0 (Below wb.heap.size wb w') ∧ Aside0 (Kd.R (Kd.int .i64) 3 w' wb.heap.size (fun _ => True) v out))
  case atStart => exact ⟨x0, nn, [], .slice none 0 0, rfl, rfl, ⟨by simp, HX0.out, HP0.out⟩, HR, ⟨I4.out.1⟩, ⟨I4.out.2⟩, ⟨Kd.R_nil _ _ _ _ _⟩⟩
  case round =>
    clear I4 HR HX0 HP0 HT0 A0
    obtain ⟨x, p, out, v, rfl, rfl, HI, HD, IR, IB, RR⟩ := hrel
    obtain ⟨Ar, cr, er⟩ := Kd.R_slice RR.out
    subst er
    cases gk with
    | succ q =>
      have t1 : decide ((out.length : Int) < (many : Int)) = true := decide_eq_true (by have := HI.out; omega)
      have t2 : decide (out.length < many) = true := decide_eq_true (by have := HI.out; omega)
      obtain ⟨s1, hs1⟩ : ∃ s1, f x = s1 := ⟨_, rfl⟩
      have hs2 : s1 < norm.length := by rw [← hs1]; exact HM.out.f_lt x HI.out.2.1
      obtain ⟨m, hm⟩ : ∃ m : Nat, norm.getD s1 0 = (m : Int) := ⟨(norm.getD s1 0).toNat, by have := HM.out.pos s1 hs2; omega⟩
      have hm2 : 0 < m ∧ m ≤ N := by
        have h1 := HM.out.pos s1 hs2
        have h2 := HM.out.sy x HI.out.2.1
        rw [hs1] at h2
        omega
      obtain ⟨rk, hrk⟩ : ∃ rk, rkF f x = rk := ⟨_, rfl⟩
      have hrm : rk < m := by
        have h1 := rk_lt (f := f) HI.out.2.1
        have h2 := HM.out.cnt s1 hs2
        rw [hs1] at h1
        omega
      obtain ⟨K, hK⟩ : ∃ K, kL N (m + rk) (nn + 1) 0 = K := ⟨_, rfl⟩
      have hk := kL_ok (y := m + rk) HM.out.hN (by omega) (by omega)
      rw [hK] at hk
      have hD := HD.out
      rw [dcL, hs1, hm, Int.toNat_natCast, hrk, hK] at hD
      have TR := TW.out.below IB.out
      have HNX := Aside0.mk (fun W (hb : Below wb.heap.size wb W) => next_ok g nn _ c0 norm N f x m K W (TW.out.below hb) HM.out.n12 HM.out.hN HI.out.2.1 (by rw [hs1]; exact hs2) (by rw [hs1]; exact hm) hm2.1 hm2.2 (by rw [hrk]; exact hK))
      rw [hrk] at HNX
      obtain ⟨A2, c2, A3, c3, gs, vs, q1, q2, q3, q4, q5, q6⟩ := TR
      have k2 := (blk_cell q1 2).trans (rfl : _ = some (Value.slice A2 N c2))
      obtain ⟨ad, e_, hcx⟩ := Kd.at_int (show Kd.C (Kd.int .i64) wr A2 (tabn N (fun x => (f x : Int))).length (tabn N (fun x => (f x : Int))) from by rw [tabn_length]; exact q3) (x : Int) (by omega) (by rw [tabn_length]; have := HI.out; omega)
      have hrd : rd (tabn N fun x => (f x : Int)) (x : Int) = (s1 : Int) := by rw [rd_nat, tabn_getD HI.out.2.1, hs1]
      rw [hrd, Int.toNat_natCast] at hcx
      subst e_
      have p1 : (0 ≤ (x : Int)) = True := eq_true (by omega)
      have p2 : ((x : Int) < (N : Int)) = True := eq_true (by have := HI.out; omega)
      have p3 : (x < N) = True := eq_true (by have := HI.out; omega)
      clear q1 q2 q3 q4 q5 q6 hrd
      have HKK := Aside0.mk (show K ≤ nn ∧ N ≤ (m + rk) * 2 ^ K ∧ (m + rk + 1) * 2 ^ K ≤ 2 * N from hk)
      have HD2 := Aside0.mk hD
      clear hk hD hm hm2 hrm hK hs1 hs2 hrk HD
      by_cases hz : p + K ≤ 8 * B.length
      · have HT1 := Aside0.mk (rtake_ok (B := B) (p := p) (k := K) (by have := HKK.out; have := HM.out.n12; omega) hz)
        have hD := HD2.out
        rw [if_pos hz] at hD
        obtain ⟨pk, hpk⟩ : ∃ pk, pkv B p K = pk := ⟨_, rfl⟩
        have hpl : pk < 2 ^ K := by rw [← hpk]; exact pkv_lt _ _ _
        obtain ⟨T, hT⟩ : ∃ T, (m + rk) * 2 ^ K = T := ⟨_, rfl⟩
        have hT2 : T + 2 ^ K ≤ 2 * N := by have := HKK.out.2.2; rw [Nat.add_mul, Nat.one_mul, hT] at this; exact this
        have hT1 : N ≤ T := by have := HKK.out.2.1; rw [hT] at this; exact this
        rw [hpk] at HT1 hD
        rw [hT] at HNX hD
        have HD3 := Aside0.mk hD
        have HXN := Aside0.mk (show T - N + pk < N ∧ p + K ≤ 8 * B.length from ⟨by omega, hz⟩)
        have E1 := Aside0.mk (show wrap64 ((T : Int) - (N : Int) + wrap64 (pk : Int)) = ((T - N + pk : Nat) : Int) from by
          have := HN12.out
          rw [w64 (x := (pk : Int)) (by omega) (by omega), w64 (by omega) (by omega)]
          omega)
        clear hD hpk hpl hT hT2 hT1 hz HD2
        go_wp2_with (first
          | ((with_reducible refine gate_builtin (b := .append) (xs := #[.tmp 53, .tmp 61]) rfl ?_); at_builtin; refine Kd.R_append (Kd.int .i64) (w0 := wb) wb.heap.size rfl (.tmp 53) (.tmp 61) 22 3 (.int .i64 0) 8 rfl Try.underlying22 info3 rfl (by decide) (by decide) (.slice Ar out.length cr) out (s1 : Int) [.int .i64 (s1 : Int)] (fun _ => True) (fun _ => False) rfl (by first | (go_simp; done) | (go_simp; rfl)) ?aP (fun _ hk => hk.elim) (fun _ _ => trivial) ?aO ?aB ?aS ?aL ?_; (case aP => exact rfl); (case aO => exact RR.out); (case aB => exact IB.out); (case aS => exact IB.out.size); (case aL => have := HI.out; have := HMA.out; omega); intro v1 w5 ho hb hg ha; have R5 := Aside0.mk ho; have B5 := Aside0.mk hb; have I5 := Aside0.mk (IR.out.grown hg (IR.out.own_ne RR.out (by decide))); clear ho hb hg ha)
          | (go_at_call 26; (with_reducible refine (HNX.out w5 B5.out).mono ?_); rintro r w6 ⟨rfl, hb⟩; have I6 := Aside0.mk (I5.out.below hb); have R6 := Aside0.mk (Kd.R_below R5.out hb); have B6 := Aside0.mk (below_step B5.out hb); clear hb)
          | (go_at_call 25; (with_reducible refine (Take_B wb w6 gr B p K HB.out.1 HB.out.2 HI.out.2.2 I6.out B6.out _ HT1.out).mono ?_); rintro r w7 ⟨rfl, hI, hb, hk⟩; have I7 := Aside0.mk hI; have B7 := Aside0.mk hb; have R7 := Aside0.mk (rd_keep I6.out R6.out hk); clear hI hb hk))
        go_roundg q
        case measure => omega
        case rel =>
          refine ⟨T - N + pk, p + K, out ++ [(s1 : Int)], v1, by rw [E1.out], rfl, ⟨by rw [List.length_append]; have := HI.out; exact ⟨by simp; omega, HXN.out⟩⟩, HD3, I7, B7, R7⟩
      · have HT1 := Aside0.mk (rtake_no (B := B) (p := p) (k := K) (by have := HKK.out; have := HM.out.n12; omega) hz)
        have hD := HD2.out
        rw [if_neg hz] at hD
        obtain ⟨rfl, rfl⟩ : ([] : List Int) = r1 ∧ (3 : Int) = r2 := by cases hD; exact ⟨rfl, rfl⟩
        clear hD hz HD2
        go_wp2_with (first
          | ((with_reducible refine gate_builtin (b := .append) (xs := #[.tmp 53, .tmp 61]) rfl ?_); at_builtin; refine Kd.R_append (Kd.int .i64) (w0 := wb) wb.heap.size rfl (.tmp 53) (.tmp 61) 22 3 (.int .i64 0) 8 rfl Try.underlying22 info3 rfl (by decide) (by decide) (.slice Ar out.length cr) out (s1 : Int) [.int .i64 (s1 : Int)] (fun _ => True) (fun _ => False) rfl (by first | (go_simp; done) | (go_simp; rfl)) ?aP (fun _ hk => hk.elim) (fun _ _ => trivial) ?aO ?aB ?aS ?aL ?_; (case aP => exact rfl); (case aO => exact RR.out); (case aB => exact IB.out); (case aS => exact IB.out.size); (case aL => have := HI.out; have := HMA.out; omega); intro v1 w5 ho hb hg ha; have R5 := Aside0.mk ho; have B5 := Aside0.mk hb; have I5 := Aside0.mk (IR.out.grown hg (IR.out.own_ne RR.out (by decide))); clear ho hb hg ha)
          | (go_at_call 26; (with_reducible refine (HNX.out w5 B5.out).mono ?_); rintro r w6 ⟨rfl, hb⟩; have I6 := Aside0.mk (I5.out.below hb); have R6 := Aside0.mk (Kd.R_below R5.out hb); have B6 := Aside0.mk (below_step B5.out hb); clear hb)
          | (go_at_call 25; (with_reducible refine (Take_B wb w6 gr B p K HB.out.1 HB.out.2 HI.out.2.2 I6.out B6.out _ HT1.out).mono ?_); rintro r w7 ⟨rfl, hI, hb, hk⟩; have I7 := Aside0.mk hI; have B7 := Aside0.mk hb; have R7 := Aside0.mk (rd_keep I6.out R6.out hk); clear hI hb hk))
        go_ret2
        exact ⟨_, rfl, Kd.R_nil _ _ _ _ _, below_step BW.out B7.out⟩
    | zero =>
      have t1 : decide ((out.length : Int) < (many : Int)) = false := decide_eq_false (by have := HI.out; omega)
      have t2 : decide (out.length < many) = false := decide_eq_false (by have := HI.out; omega)
      obtain ⟨L, hL⟩ : ∃ L, 8 * B.length - p = L := ⟨_, rfl⟩
      have hD := HD.out
      rw [dcL, hL] at hD
      have HL := Aside0.mk (show bitr_Reader_Left.f (zs B) (p : Int) = some ((L : Int), (p : Int)) from by rw [left_f B HB.out.2 p HI.out.2.2, hL])
      by_cases hx : x = 0
      case neg =>
        rw [if_neg (fun h => hx h.1)] at hD
        obtain ⟨rfl, rfl⟩ : ([] : List Int) = r1 ∧ (4 : Int) = r2 := by cases hD; exact ⟨rfl, rfl⟩
        have t3 : ((x : Int) != 0) = true := bne_iff_ne.mpr (by omega)
        have t4 : (x != 0) = true := bne_iff_ne.mpr hx
        clear hD hx HD hL HL
        go_wp2
        go_ret2
        exact ⟨_, rfl, Kd.R_nil _ _ _ _ _, below_step BW.out IB.out⟩
      subst hx
      by_cases h8 : L < 8
      case neg =>
        rw [if_neg (fun h => h8 h.2.1)] at hD
        obtain ⟨rfl, rfl⟩ : ([] : List Int) = r1 ∧ (4 : Int) = r2 := by cases hD; exact ⟨rfl, rfl⟩
        have t3 : decide ((8 : Int) ≤ (L : Int)) = true := decide_eq_true (by omega)
        have t4 : decide (8 ≤ L) = true := decide_eq_true (by omega)
        clear hD h8 HD hL
        go_wp2_with (first
          | (go_at_call 27; (with_reducible refine (bitr_Reader_Left.calls gr (zs B) (p : Int) (L : Int) (p : Int) wb wr IR.out IB.out HL.out).mono ?_); rintro r w5 ⟨rfl, hI, hb, hk⟩; have I5 := Aside0.mk hI; have B5 := Aside0.mk hb; have R5 := Aside0.mk (rd_keep IR.out RR.out hk); clear hI hb hk))
        go_ret2
        exact ⟨_, rfl, Kd.R_nil _ _ _ _ _, below_step BW.out B5.out⟩
      have t3 : decide ((8 : Int) ≤ (L : Int)) = false := decide_eq_false (by omega)
      have t4 : decide (8 ≤ L) = false := decide_eq_false (by omega)
      obtain ⟨pk, hpk⟩ : ∃ pk, pkv B p L = pk := ⟨_, rfl⟩
      obtain ⟨k0, hk0⟩ := ev_get (peek_ev B HB.out.1 HB.out.2 p HI.out.2.2 (L : Int))
      have HPK := Aside0.mk (show bitr_Reader_Peek.f k0 (zs B) (p : Int) (L : Int) = some ((pk : Int), (p : Int)) from by
        rw [hk0]
        unfold rpeek
        rw [show inW (L : Int) = true from decide_eq_true ⟨by omega, by omega⟩, if_pos rfl, Int.toNat_natCast, hpk])
      rw [hpk] at hD
      by_cases h0 : pk = 0
      · subst h0
        rw [if_pos ⟨rfl, h8, rfl⟩] at hD
        obtain ⟨rfl, rfl⟩ : out = r1 ∧ (0 : Int) = r2 := by cases hD; exact ⟨rfl, rfl⟩
        rw [Int.natCast_zero] at HPK
        clear hD h8 HD hL hk0 hpk
        go_wp2_with (first
          | (go_at_call 27; (with_reducible refine (bitr_Reader_Left.calls gr (zs B) (p : Int) (L : Int) (p : Int) wb wr IR.out IB.out HL.out).mono ?_); rintro r w5 ⟨rfl, hI, hb, hk⟩; have I5 := Aside0.mk hI; have B5 := Aside0.mk hb; have R5 := Aside0.mk (rd_keep IR.out RR.out hk); clear hI hb hk)
          | (go_at_call 27; (with_reducible refine (bitr_Reader_Left.calls gr (zs B) (p : Int) (L : Int) (p : Int) wb w5 I5.out B5.out HL.out).mono ?_); rintro r w6 ⟨rfl, hI, hb, hk⟩; have I6 := Aside0.mk hI; have B6 := Aside0.mk hb; have R6 := Aside0.mk (rd_keep I5.out R5.out hk); clear hI hb hk)
          | (go_at_call 28; (with_reducible refine (bitr_Reader_Peek.calls k0 gr (zs B) (p : Int) (L : Int) 0 (p : Int) wb w6 I6.out B6.out HPK.out).mono ?_); rintro r w7 ⟨rfl, hI, hb, hk⟩; have I7 := Aside0.mk hI; have B7 := Aside0.mk hb; have R7 := Aside0.mk (rd_keep I6.out R6.out hk); clear hI hb hk))
        go_ret2
        exact ⟨_, rfl, Kd.R_lower R7.out BW.out.size, below_step BW.out B7.out⟩
      · rw [if_neg (fun h => h0 h.2.2)] at hD
        obtain ⟨rfl, rfl⟩ : ([] : List Int) = r1 ∧ (4 : Int) = r2 := by cases hD; exact ⟨rfl, rfl⟩
        have t5 : ((pk : Int) != 0) = true := bne_iff_ne.mpr (by omega)
        have t6 : (pk != 0) = true := bne_iff_ne.mpr h0
        clear hD h8 HD hL hk0 hpk h0
        go_wp2_with (first
          | (go_at_call 27; (with_reducible refine (bitr_Reader_Left.calls gr (zs B) (p : Int) (L : Int) (p : Int) wb wr IR.out IB.out HL.out).mono ?_); rintro r w5 ⟨rfl, hI, hb, hk⟩; have I5 := Aside0.mk hI; have B5 := Aside0.mk hb; have R5 := Aside0.mk (rd_keep IR.out RR.out hk); clear hI hb hk)
          | (go_at_call 27; (with_reducible refine (bitr_Reader_Left.calls gr (zs B) (p : Int) (L : Int) (p : Int) wb w5 I5.out B5.out HL.out).mono ?_); rintro r w6 ⟨rfl, hI, hb, hk⟩; have I6 := Aside0.mk hI; have B6 := Aside0.mk hb; have R6 := Aside0.mk (rd_keep I5.out R5.out hk); clear hI hb hk)
          | (go_at_call 28; (with_reducible refine (bitr_Reader_Peek.calls k0 gr (zs B) (p : Int) (L : Int) (pk : Int) (p : Int) wb w6 I6.out B6.out HPK.out).mono ?_); rintro r w7 ⟨rfl, hI, hb, hk⟩; have I7 := Aside0.mk hI; have B7 := Aside0.mk hb; have R7 := Aside0.mk (rd_keep I6.out R6.out hk); clear hI hb hk))
        go_ret2
        exact ⟨_, rfl, Kd.R_nil _ _ _ _ _, below_step BW.out B7.out⟩
end Go.Proofs.Ytoondlhlcmjniaa.Hd
