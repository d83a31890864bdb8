/- The reader of bits (bitr), plainly. -/
import Derived.Test.YtoondlhlcmjniaaZBts
import Derived.Test.YtoondlhlcmjniaaZPx4
set_option linter.unusedVariables false
set_option linter.unusedSimpArgs false
set_option linter.unusedSectionVars false
namespace Go.Proofs.Ytoondlhlcmjniaa.Com
open Go.RowKit Go.Proofs.YtoondlhlcmjniaaW.PrintWords Go.Proofs.YtoondlhlcmjniaaW.PrintMore Go.Proofs.Ytoondlhlcmjniaa.P

/-- Bytes as a row of whole numbers. -/
def zs (B : List Nat) : List Int := B.map (fun n : Nat => (n : Int))
theorem zs_length (B : List Nat) : (zs B).length = B.length := by simp [zs]
theorem rd_zs (B : List Nat) (i : Nat) : rd (zs B) (i : Int) = ((B.getD i 0 : Nat) : Int) := by
  rw [rd_nat]
  by_cases h : i < B.length
  · simp [zs, List.getD_eq_getElem?_getD, List.getElem?_eq_getElem h]
  · simp [zs, List.getD_eq_getElem?_getD, List.getElem?_eq_none (Nat.le_of_not_lt h)]
/-- The word of so many bits from a place on. -/
def pkv (B : List Nat) (p n : Nat) : Nat := vb B / 2 ^ p % 2 ^ n
def inW (a : Int) : Bool := decide (0 ≤ a ∧ a ≤ 56)
def rpeek (B : List Nat) (p : Nat) (a : Int) : Int := if inW a then (pkv B p a.toNat : Int) else 0
def rskip (B : List Nat) (p : Nat) (a : Int) : Int × Int := if inW a then (if p + a.toNat ≤ 8 * B.length then (0, ((p + a.toNat : Nat) : Int)) else (3, (p : Int))) else (2, (p : Int))
def rtake (B : List Nat) (p : Nat) (a : Int) : Int × Int × Int := if inW a then (if p + a.toNat ≤ 8 * B.length then ((pkv B p a.toNat : Int), 0, ((p + a.toNat : Nat) : Int)) else (0, 3, (p : Int))) else (0, 2, (p : Int))

theorem getD_lt256 {B : List Nat} (h : ∀ x ∈ B, x < 256) (i : Nat) : B.getD i 0 < 256 := by
  by_cases hi : i < B.length
  · rw [List.getD_eq_getElem?_getD, List.getElem?_eq_getElem hi]
    exact h _ (List.getElem_mem hi)
  · rw [List.getD_eq_getElem?_getD, List.getElem?_eq_none (Nat.le_of_not_lt hi)]
    simp
theorem take_snocN (l : List Nat) (i : Nat) (h : i < l.length) : l.take (i + 1) = l.take i ++ [l.getD i 0] := by
  rw [List.take_add_one, List.getElem?_eq_getElem h]
  simp [List.getD_eq_getElem?_getD, List.getElem?_eq_getElem h]

theorem word_cut (X s o n : Nat) (h : o + n ≤ s) : X % 2 ^ s / 2 ^ o % 2 ^ n = X / 2 ^ o % 2 ^ n := by
  obtain ⟨d, rfl⟩ : ∃ d, s = o + d := ⟨s - o, by omega⟩
  rw [Nat.pow_add, Nat.mod_mul_right_div_self, Nat.mod_mod_of_dvd _ (Nat.pow_dvd_pow 2 (by omega))]

theorem peek_end (B : List Nat) (hB : ∀ x ∈ B, x < 256) (fr off i n : Nat) (ho : off < 8) (hn : n ≤ 56) (hi : i = 8 ∨ (i ≤ 8 ∧ B.length ≤ fr + i)) :
    Go.bits .and .u64 (shr .u64 ((vb ((B.drop fr).take i) : Nat) : Int) (off : Int)) (IntKind.u64.wrap ((shl .u64 1 (n : Int)) - 1)) = ((pkv B (8 * fr + off) n : Nat) : Int) := by
  have hd : ∀ x ∈ B.drop fr, x < 256 := fun x hx => hB x (List.mem_of_mem_drop hx)
  have ht : ∀ x ∈ (B.drop fr).take i, x < 256 := fun x hx => hd x (List.mem_of_mem_take hx)
  have hlt : vb ((B.drop fr).take i) < 2 ^ 64 := by
    refine Nat.lt_of_lt_of_le (vb_lt _ ht) ?_
    have : ((B.drop fr).take i).length ≤ 8 := by rw [List.length_take]; omega
    exact Nat.le_trans (Nat.pow_le_pow_right (by omega) this) (by decide)
  rw [shr_nat _ _ (by omega), mask_nat _ (by omega), low_nat _ _ (Nat.lt_of_le_of_lt (Nat.div_le_self _ _) hlt) (by omega)]
  congr 1
  unfold pkv
  have e1 : vb B / 2 ^ (8 * fr + off) = vb (B.drop fr) / 2 ^ off := by rw [vb_drop _ hB, Nat.pow_add, Nat.div_div_eq_div_mul]
  rw [e1]
  rcases hi with rfl | ⟨h8, hl⟩
  · rw [vb_take _ hd]
    exact word_cut _ 64 off n (by omega)
  · rw [List.take_of_length_le (by rw [List.length_drop]; omega)]

theorem peek_l0 (B : List Nat) (hB : ∀ x ∈ B, x < 256) (hl : B.length ≤ 1099511627776) (fr off n p : Nat) (hf : fr ≤ B.length) (ho : off < 8) (hn : n ≤ 56) (hp : p = 8 * fr + off) (d : Nat) :
    ∀ i : Nat, i + d = 8 → (fr + i ≤ B.length ∨ i = 0) → Ev (fun k => bitr_Reader_Peek.l0 k (n : Int) ((vb ((B.drop fr).take i) : Nat) : Int) (fr : Int) (off : Int) (i : Int) (zs B) (p : Int)) (((pkv B p n : Nat) : Int), (p : Int)) := by
  subst hp
  induction d with
  | zero =>
    intro i hi _
    refine Ev.step (f := fun _ => some (((pkv B (8 * fr + off) n : Nat) : Int), ((8 * fr + off : Nat) : Int))) (fun k => ?_) (Ev.now _)
    simp only [bitr_Reader_Peek.l0]
    rw [if_neg (by omega), if_pos (by omega), if_pos (by omega), peek_end B hB fr off i n ho hn (.inl (by omega))]
  | succ d ih =>
    intro i hi hfi
    by_cases hlt : fr + i < B.length
    · refine Ev.step (fun k => ?_) (ih (i + 1) (by omega) (by omega))
      simp only [bitr_Reader_Peek.l0]
      have e1 : wrap64 ((fr : Int) + (i : Int)) = ((fr + i : Nat) : Int) := by rw [w64 (by omega) (by omega)]; omega
      have e2 : wrap64 (8 * (i : Int)) = ((8 * i : Nat) : Int) := by rw [w64 (by omega) (by omega)]; omega
      have hb := getD_lt256 hB (fr + i)
      have e3 : IntKind.u64.wrap (((B.getD (fr + i) 0 : Nat) : Int)) = ((B.getD (fr + i) 0 : Nat) : Int) := wu64 (by omega) (by omega)
      have hd : ∀ x ∈ B.drop fr, x < 256 := fun x hx => hB x (List.mem_of_mem_drop hx)
      have ht : ∀ x ∈ (B.drop fr).take i, x < 256 := fun x hx => hd x (List.mem_of_mem_take hx)
      have hpi : 2 ^ (8 * i) ≤ 2 ^ 56 := Nat.pow_le_pow_right (by omega) (by omega)
      have hmul : B.getD (fr + i) 0 * 2 ^ (8 * i) ≤ 255 * 2 ^ 56 := Nat.mul_le_mul (by omega) hpi
      have hv := vb_lt _ ht
      have hti : ((B.drop fr).take i).length = i := by rw [List.length_take, List.length_drop]; omega
      have e256 : 256 ^ i = 2 ^ (8 * i) := by rw [Nat.pow_mul]
      rw [hti, e256] at hv
      have e4 : (B.drop fr).getD i 0 = B.getD (fr + i) 0 := by simp [List.getD_eq_getElem?_getD]
      rw [if_pos (by omega), e1, if_pos (by rw [zs_length]; omega), if_pos (by omega), e2, if_pos (by omega), rd_zs, e3, shl_nat _ _ (by omega) (by omega), or_nat _ _ (8 * i) hv (Nat.mul_mod_left _ _) (by omega) (by omega), w64 (by omega) (by omega), take_snocN _ _ (by rw [List.length_drop]; omega), vb_append, hti, e256, e4]
      have e5 : vb [B.getD (fr + i) 0] = B.getD (fr + i) 0 := by simp [vb]
      rw [e5, Nat.mul_comm (2 ^ (8 * i))]
      rfl
    · refine Ev.step (f := fun _ => some (((pkv B (8 * fr + off) n : Nat) : Int), ((8 * fr + off : Nat) : Int))) (fun k => ?_) (Ev.now _)
      simp only [bitr_Reader_Peek.l0]
      have e1 : wrap64 ((fr : Int) + (i : Int)) = ((fr + i : Nat) : Int) := by rw [w64 (by omega) (by omega)]; omega
      rw [if_pos (by omega), e1, if_neg (by rw [zs_length]; omega), if_pos (by omega), if_pos (by omega), peek_end B hB fr off i n ho hn (.inr (by omega))]

theorem peek_ev (B : List Nat) (hB : ∀ x ∈ B, x < 256) (hl : B.length ≤ 1099511627776) (p : Nat) (hp : p ≤ 8 * B.length) (a : Int) : Ev (fun k => bitr_Reader_Peek.f k (zs B) (p : Int) a) (rpeek B p a, (p : Int)) := by
  have he : ∀ k, bitr_Reader_Peek.f k (zs B) (p : Int) a = bitr_Reader_Peek.j0 k a (!inW a) (zs B) (p : Int) := by
    intro k
    unfold bitr_Reader_Peek.f inW
    by_cases h : a < 0
    · rw [if_pos h, decide_eq_false (by omega)]; rfl
    · rw [if_neg h]
      congr 1
      rw [Bool.eq_iff_iff]; simp; omega
  refine Ev.congr he ?_
  unfold rpeek
  cases hw : inW a with
  | false => exact Ev.step (f := fun _ => some (0, (p : Int))) (fun k => by simp only [bitr_Reader_Peek.j0]; rw [if_pos (by simp)]) (Ev.some (by simp))
  | true =>
    simp [inW] at hw
    have h := peek_l0 B hB hl (p / 8) (p % 8) a.toNat p (by omega) (by omega) (by omega) (by omega) 8 0 (by omega) (.inr rfl)
    refine Ev.step (fun k => ?_) h
    simp only [bitr_Reader_Peek.j0]
    have e1 : Int.tdiv (p : Int) 8 = ((p / 8 : Nat) : Int) := by rw [Int.tdiv_eq_ediv_of_nonneg (by omega)]; omega
    have e2 : Int.tmod (p : Int) 8 = ((p % 8 : Nat) : Int) := by rw [Int.tmod_eq_emod_of_nonneg (by omega)]; omega
    have e3 : ((a.toNat : Nat) : Int) = a := by omega
    rw [if_neg (by simp), e1, e2, w64 (by omega) (by omega), e3]
    rfl

theorem left_f (B : List Nat) (hl : B.length ≤ 1099511627776) (p : Nat) (hp : p ≤ 8 * B.length) : bitr_Reader_Left.f (zs B) (p : Int) = some (((8 * B.length - p : Nat) : Int), (p : Int)) := by
  unfold bitr_Reader_Left.f
  rw [zs_length, w64 (x := (B.length : Int) * 8) (by omega) (by omega), w64 (by omega) (by omega)]
  congr 2
  omega
theorem skip_ev (B : List Nat) (hl : B.length ≤ 1099511627776) (p : Nat) (hp : p ≤ 8 * B.length) (a : Int) : Ev (fun k => bitr_Reader_Skip.f k (zs B) (p : Int) a) (rskip B p a) := by
  have he : ∀ k, bitr_Reader_Skip.f k (zs B) (p : Int) a = bitr_Reader_Skip.j0 k a (!inW a) (zs B) (p : Int) := by
    intro k
    unfold bitr_Reader_Skip.f inW
    by_cases h : a < 0
    · rw [if_pos h, decide_eq_false (by omega)]; rfl
    · rw [if_neg h]
      congr 1
      rw [Bool.eq_iff_iff]; simp; omega
  refine Ev.congr he ?_
  unfold rskip
  cases hw : inW a with
  | false => exact Ev.step (f := fun _ => some (2, (p : Int))) (fun k => by simp only [bitr_Reader_Skip.j0]; rw [if_pos (by simp)]) (Ev.some (by simp))
  | true =>
    simp [inW] at hw
    simp only [if_true]
    refine Ev.step (f := fun _ => some (if p + a.toNat ≤ 8 * B.length then (0, ((p + a.toNat : Nat) : Int)) else (3, (p : Int)))) (fun k => ?_) (Ev.now _)
    simp only [bitr_Reader_Skip.j0]
    rw [if_neg (by simp), left_f B hl p hp]
    simp only [Option.bind_some]
    by_cases h : p + a.toNat ≤ 8 * B.length
    · rw [if_neg (by omega), if_pos h, w64 (by omega) (by omega)]
      congr 2
      omega
    · rw [if_pos (by omega), if_neg h]
end Go.Proofs.Ytoondlhlcmjniaa.Com
