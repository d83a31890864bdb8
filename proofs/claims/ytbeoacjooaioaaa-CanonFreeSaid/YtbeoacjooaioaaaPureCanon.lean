/- The plain laws of chapter 8 (codes of lengths). -/
import Derived.Test.YtbeoacjooaioaaaHCn4
import Derived.Test.YtbeoacjooaioaaaPx5
import Derived.Test.YtbeoacjooaioaaaPx6
import Derived.Test.YtbeoacjooaioaaaBts
set_option linter.unusedVariables false
set_option linter.unusedSimpArgs false
set_option linter.unusedSectionVars false
namespace Go.Proofs.Ytbeoacjooaioaaa.Pure
open Go.RowKit Go.Proofs.YtbeoacjooaioaaaW.PrintWords Go.Proofs.YtbeoacjooaioaaaW.PrintMore Go.Proofs.Ytbeoacjooaioaaa.P Go.Proofs.Ytbeoacjooaioaaa.Com Go.Proofs.Ytbeoacjooaioaaa.Cn Go.Proofs.Ytbeoacjooaioaaa.Hd
attribute [local irreducible] ord pos

theorem ev_get {α : Type} {f : Nat → Option α} {r : α} (h : Ev f r) : ∃ k, f k = some r := by
  obtain ⟨k, hk⟩ := h
  exact ⟨k, hk k (Nat.le_refl _)⟩
theorem awake_ev : Ev (fun k => gladstonelaw08_awake.f k) true := Ev.of (fun k => gladstonelaw08_awake.mono k) (k := 12) (by decide +kernel)
theorem awake_ev' : Ev (fun k => (gladstonelaw08_awake.f k).bind fun t => some t) true := Ev.bind (f := fun _ t => some t) awake_ev (Ev.now _)

theorem ints_ev (l : List Int) (hl : l.length ≤ 17592186044416) : Ev (fun k => gladstoneref08_Ints.f k l l) true := by
  refine Ev.congr (f := fun k => gladstoneref08_Ints.l0 k l l 0) (fun k => by unfold gladstoneref08_Ints.f; rw [if_pos rfl]) ?_
  have h := Ev.along l (fun k (_ : Unit) i => gladstoneref08_Ints.l0 k l l i) (fun _ _ => true) (fun _ _ => True) ?_ ?_ 0 () (Nat.zero_le _) trivial
  · exact h
  · intro s _
    refine Ev.step (f := fun _ => some true) (fun k => ?_) (Ev.now _)
    simp only [gladstoneref08_Ints.l0]
    rw [if_neg (by omega)]
  · intro i s a t hs hd ha hlt ih
    refine Ev.step (fun k => ?_) (ih () trivial)
    simp only [gladstoneref08_Ints.l0]
    rw [if_pos (by omega), if_pos (by omega), if_pos (by omega), if_pos trivial, w64 (x := (i : Int) + 1) (by omega) (by omega)]
    rfl

/-! ### turned -/
theorem and_one (x : Int) : Go.bits .and .i64 x 1 = x % 2 := by
  have e : (BitVec.ofInt 64 x &&& BitVec.ofInt 64 1).toNat = (x % 2).toNat := by
    rw [BitVec.toNat_and, BitVec.toNat_ofInt, BitVec.toNat_ofInt]
    have e1 : ((1 : Int) % ((2 ^ 64 : Nat) : Int)).toNat = 1 := by decide
    rw [e1, Nat.and_one_is_mod]
    have e2 : ((2 ^ 64 : Nat) : Int) = 18446744073709551616 := by decide
    rw [e2]
    omega
  unfold Go.bits
  show IntKind.i64.wrap ((BitVec.ofInt 64 x &&& BitVec.ofInt 64 1).toNat : Int) = x % 2
  rw [e, IntKind.wrap_i64]
  omega
/-- The first bits of a number, the other way round. -/
def T (c : Int) : Nat → Int
  | 0 => 0
  | i + 1 => 2 * T c i + c / 2 ^ i % 2
theorem T_bd (c : Int) (i : Nat) : 0 ≤ T c i ∧ T c i < 2 ^ i := by
  induction i with
  | zero => simp [T]
  | succ i ih =>
    have e : (2 : Int) ^ (i + 1) = 2 * 2 ^ i := by rw [Int.pow_succ, Int.mul_comm]
    simp only [T]
    rw [e]
    omega
theorem pow32 {i : Nat} (h : i ≤ 32) : (2 : Int) ^ i ≤ 4294967296 ∧ (1 : Int) ≤ 2 ^ i := by
  have : ∀ i : Nat, i ≤ 32 → (2 : Int) ^ i ≤ 4294967296 ∧ (1 : Int) ≤ 2 ^ i := by decide
  exact this i h
theorem or_bit {x b : Int} (h0 : 0 ≤ x) (h1 : x < 4294967296) (hb : b = 0 ∨ b = 1) : Go.bits .or .i64 (2 * x) b = 2 * x + b := by
  obtain ⟨n, rfl⟩ : ∃ n : Nat, x = n := ⟨x.toNat, by omega⟩
  obtain ⟨m, rfl, hm⟩ : ∃ m : Nat, b = m ∧ m < 2 := ⟨b.toNat, by omega, by omega⟩
  have := (bits_i64 (2 * n) m (by omega) (by omega)).2
  rw [show ((2 * n : Nat) : Int) = 2 * (n : Int) by omega] at this
  rw [this, or_join (2 * n) m 1 (by omega) (by omega)]
  omega
def turn (c n : Int) : Int := if n < 0 ∨ 32 < n then 0 else T c n.toNat
theorem turned_l0 (c : Int) (n : Nat) (hn : n ≤ 32) (d : Nat) : ∀ i, i + d = n → Ev (fun k => canon_Turned.l0 k (c / 2 ^ i) (T c i) (n : Int) (i : Int)) (T c n) := by
  induction d with
  | zero =>
    intro i hi
    have e : i = n := by omega
    subst e
    refine Ev.step (f := fun _ => some (T c i)) (fun k => ?_) (Ev.now _)
    simp only [canon_Turned.l0]
    rw [if_neg (by omega)]
  | succ d ih =>
    intro i hi
    have hb := T_bd c i
    have hp := pow32 (show i ≤ 32 by omega)
    refine Ev.step (fun k => ?_) (ih (i + 1) (by omega))
    simp only [canon_Turned.l0]
    have e1 : c / 2 ^ i / 2 = c / 2 ^ (i + 1) := by rw [Int.ediv_ediv_of_nonneg (by omega), Int.pow_succ]
    rw [if_pos (by omega), and_one, w64 (x := (i : Int) + 1) (by omega) (by omega), w64 (x := T c i * 2) (by omega) (by omega), Int.mul_comm (T c i) 2, or_bit hb.1 (by omega) (by omega), e1]
    rfl
theorem turned_ev (c n : Int) : Ev (fun k => canon_Turned.f k c n) (turn c n) := by
  unfold turn
  by_cases h : n < 0 ∨ 32 < n
  · rw [if_pos h]
    refine Ev.step (f := fun _ => some 0) (fun k => ?_) (Ev.now _)
    unfold canon_Turned.f
    by_cases h1 : n < 0
    · rw [if_pos h1]; simp only [canon_Turned.j0]; rfl
    · rw [if_neg h1]; simp only [canon_Turned.j0]; rw [if_pos (by simp; omega)]
  · rw [if_neg h]
    obtain ⟨m, rfl⟩ : ∃ m : Nat, n = m := ⟨n.toNat, by omega⟩
    have hl := turned_l0 c m (by omega) m 0 (by omega)
    rw [Int.pow_zero, Int.ediv_one] at hl
    refine Ev.step (fun k => ?_) hl
    unfold canon_Turned.f
    rw [if_neg (by omega)]
    simp only [canon_Turned.j0]
    rw [if_neg (by simp; omega)]
    rfl
theorem rturned_l0 (c : Int) (hc : -9223372036854775808 ≤ c ∧ c ≤ 9223372036854775807) (n : Nat) (hn : n ≤ 32) (d : Nat) : ∀ i, i + d = n → Ev (fun k => gladstoneref08_Turned.l0 k c (n : Int) (T c i) (i : Int)) (T c n) := by
  induction d with
  | zero =>
    intro i hi
    have e : i = n := by omega
    subst e
    refine Ev.step (f := fun _ => some (T c i)) (fun k => ?_) (Ev.now _)
    simp only [gladstoneref08_Turned.l0]
    rw [if_neg (by omega)]
  | succ d ih =>
    intro i hi
    have hb := T_bd c i
    have hp := pow32 (show i ≤ 32 by omega)
    refine Ev.step (fun k => ?_) (ih (i + 1) (by omega))
    simp only [gladstoneref08_Turned.l0]
    have e1 : shr .i64 c (i : Int) = c / 2 ^ i := by
      unfold shr
      have e : min ((i : Int)).toNat IntKind.i64.bits = i := by simp [IntKind.bits]; omega
      rw [e]
    rw [if_pos (by omega), wu64 (x := (i : Int)) (by omega) (by omega), if_pos (by omega), e1, and_one, w64 (x := (i : Int) + 1) (by omega) (by omega), w64 (x := T c i * 2) (by omega) (by omega), w64 (by omega) (by omega), Int.mul_comm (T c i) 2]
    rfl
theorem rturned_ev (c n : Int) (hc : -9223372036854775808 ≤ c ∧ c ≤ 9223372036854775807) : Ev (fun k => gladstoneref08_Turned.f k c n) (turn c n) := by
  unfold turn
  by_cases h : n < 0 ∨ 32 < n
  · rw [if_pos h]
    refine Ev.step (f := fun _ => some 0) (fun k => ?_) (Ev.now _)
    unfold gladstoneref08_Turned.f
    by_cases h1 : n < 0
    · rw [if_pos h1]; simp only [gladstoneref08_Turned.j0]; rfl
    · rw [if_neg h1]; simp only [gladstoneref08_Turned.j0]; rw [if_pos (by simp; omega)]
  · rw [if_neg h]
    obtain ⟨m, rfl⟩ : ∃ m : Nat, n = m := ⟨n.toNat, by omega⟩
    have hl := rturned_l0 c hc m (by omega) m 0 (by omega)
    refine Ev.step (fun k => ?_) hl
    unfold gladstoneref08_Turned.f
    rw [if_neg (by omega)]
    simp only [gladstoneref08_Turned.j0]
    rw [if_neg (by simp; omega)]
    rfl

/-! ### codes -/
def codesP (l : List Int) : List Int × Int := if chk l 16 = 0 then (codesL l, 0) else ([], chk l 16)
theorem codes_ev (l : List Int) (hl : l.length ≤ 17592186044416) : Ev (fun k => canon_Codes.f k l) (codesP l) := by
  refine Ev.bind (chk_ev l hl 16) ?_
  unfold codesP
  by_cases h : chk l 16 = 0
  · rw [if_pos h, if_pos h]; exact Ev.now _
  · rw [if_neg h, if_neg h]; exact Ev.now _
theorem rcodes_ev (l : List Int) (hl : l.length ≤ 17592186044416) : Ev (fun k => gladstoneref08_Codes.f k l) (codesP l) := by
  refine Ev.bind (rchk_ev l hl 16) ?_
  unfold codesP
  by_cases h : chk l 16 = 0
  · rw [if_pos h, if_pos h]; exact Ev.now _
  · rw [if_neg h, if_neg h]; exact Ev.now _
theorem corder_ev (l : List Int) (hl : l.length ≤ 17592186044416) : Ev (fun k => canon_Order.f k l) (if chk l 16 = 0 then OL l else []) := by
  refine Ev.bind (chk_ev l hl 16) ?_
  by_cases h : chk l 16 = 0
  · rw [if_pos h, if_pos h]; exact Ev.now _
  · rw [if_neg h, if_neg h]; exact Ev.now _
theorem chk_len {l : List Int} (h : chk l 16 = 0) : l.length ≤ 1024 ∧ ∀ x ∈ l, 0 ≤ x ∧ x ≤ 16 := by
  unfold chk at h
  rw [if_neg (by decide)] at h
  by_cases h1 : 1024 < l.length
  · rw [if_pos h1] at h; exact absurd h (by decide)
  · rw [if_neg h1] at h
    by_cases ha : l.all (fun x => decide (0 ≤ x ∧ x ≤ 16)) = false
    · rw [if_pos ha] at h; exact absurd h (by decide)
    · exact ⟨by omega, fun x hx => of_decide_eq_true (List.all_eq_true.1 (Bool.not_eq_false _ ▸ ha : l.all (fun x => decide (0 ≤ x ∧ x ≤ 16)) = true) x hx)⟩
theorem codesP_len (l : List Int) : (codesP l).1.length ≤ l.length := by
  unfold codesP
  split
  · exact Nat.le_of_eq (tabn_length _ _)
  · exact Nat.zero_le _

theorem CanonCodes : gladstonelaw08_CanonCodes.Pure := by
  intro l c n hm hl hw hc hn
  have hc := wf_i64 hc
  have hn := wf_i64 hn
  have h : Ev (fun k => gladstonelaw08_CanonCodes.f k l c n) true := by
    unfold gladstonelaw08_CanonCodes.f
    by_cases h1 : (l.length : Int) > 1100
    · exact Ev.ifp h1 awake_ev'
    · refine Ev.ifn h1 ?_
      have hl2 : l.length ≤ 17592186044416 := by omega
      refine Ev.bind (codes_ev l hl2) ?_
      refine Ev.bind (rcodes_ev l hl2) ?_
      refine Ev.bind (ints_ev _ (Nat.le_trans (codesP_len l) hl2)) ?_
      refine Ev.ifp rfl (Ev.ifp rfl ?_)
      refine Ev.bind (corder_ev l hl2) ?_
      refine Ev.bind (rorder_ev l hl2) ?_
      refine Ev.bind (ints_ev _ ?_) ?_
      · by_cases h : chk l 16 = 0
        · rw [if_pos h, OL_length]
          have := (chk_len h).1
          exact Nat.le_trans (ord_le l this) (by decide)
        · rw [if_neg h]; exact Nat.zero_le _
      refine Ev.ifp rfl ?_
      refine Ev.bind (turned_ev c n) ?_
      refine Ev.bind (rturned_ev c n hc) ?_
      exact Ev.ifp rfl awake_ev'
  exact ev_get h
end Go.Proofs.Ytbeoacjooaioaaa.Pure
