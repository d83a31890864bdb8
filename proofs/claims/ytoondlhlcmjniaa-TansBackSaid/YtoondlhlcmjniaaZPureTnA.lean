/- tans: sums, checks, and how symbols are spread. -/
import Derived.Test.YtoondlhlcmjniaaZCom
import Derived.Test.YtoondlhlcmjniaaZCn
import Derived.Test.YtoondlhlcmjniaaZPureTn
import Derived.Test.YtoondlhlcmjniaaZPx1
import Derived.Test.YtoondlhlcmjniaaZPx3
import Derived.Test.YtoondlhlcmjniaaZPx4
import Derived.Test.YtoondlhlcmjniaaZPx5
import Derived.Test.YtoondlhlcmjniaaZPx7
set_option linter.unusedVariables false
set_option linter.unusedSimpArgs false
set_option linter.unusedSectionVars false
namespace Go.Proofs.Ytoondlhlcmjniaa.Pure
open Go.RowKit Go.Proofs.YtoondlhlcmjniaaW.PrintWords Go.Proofs.YtoondlhlcmjniaaW.PrintMore Go.Proofs.Ytoondlhlcmjniaa.P Go.Proofs.Ytoondlhlcmjniaa.Com Go.Proofs.Ytoondlhlcmjniaa.Tn
open Go.Proofs.Ytoondlhlcmjniaa.Cn hiding pos
def sumS : Int → List Int → Int × Bool
  | a, [] => (a, true)
  | a, x :: t => if x < 0 ∨ 4294967295 - a < x then (0, false) else sumS (a + x) t
theorem sum_ev (l : List Int) (hl : l.length ≤ 1073741824) : Ev (fun k => tans_sum.f k l) (sumS 0 l) := by
  have h := Ev.along l (fun k s i => tans_sum.l0 k s l (l.length : Int) i) (fun s t => sumS s t) (fun i s => 0 ≤ s ∧ s ≤ 4294967295) ?_ ?_ 0 0 (Nat.zero_le _) (by omega)
  · exact h
  · intro s _
    refine Ev.step (f := fun _ => some (s, true)) (fun k => ?_) (Ev.now _)
    simp only [tans_sum.l0]
    rw [if_neg (by omega)]
  · intro i s a t hs hd ha hlt ih
    have e1 : wrap64 (4294967295 - s) = 4294967295 - s := w64 (by omega) (by omega)
    by_cases hb : a < 0 ∨ 4294967295 - s < a
    · refine Ev.step (f := fun _ => some (0, false)) (fun k => ?_) (Ev.some (by rw [sumS, if_pos hb]))
      simp only [tans_sum.l0]
      rw [if_pos (by omega), if_pos (by omega), if_pos (by omega), rd_some ha, e1]
      by_cases h0 : a < 0
      · rw [if_pos h0]
      · rw [if_neg h0, if_pos (by omega)]
    · rw [sumS, if_neg hb]
      refine Ev.step (f := fun k => tans_sum.l0 k (s + a) l (l.length : Int) ((i + 1 : Nat) : Int)) (fun k => ?_) (ih _ (by omega))
      simp only [tans_sum.l0]
      rw [if_pos (by omega), if_pos (by omega), if_pos (by omega), rd_some ha, e1, if_neg (by omega), if_neg (by omega), w64 (x := (i : Int) + 1) (by omega) (by omega), w64 (x := s + a) (by omega) (by omega)]
      rfl
theorem sum_nonneg : ∀ l : List Int, (∀ x ∈ l, 0 ≤ x) → 0 ≤ l.sum
  | [], _ => by simp
  | x :: t, h => by
    have h1 := h x (by simp)
    have h2 := sum_nonneg t (fun y hy => h y (List.mem_cons_of_mem _ hy))
    rw [List.sum_cons]; omega
theorem sumS_eq : ∀ (l : List Int) (a : Int), 0 ≤ a → a ≤ 4294967295 → sumS a l = if (∀ x ∈ l, 0 ≤ x) ∧ a + l.sum ≤ 4294967295 then (a + l.sum, true) else (0, false)
  | [], a, h0, h1 => by rw [sumS, if_pos ⟨by simp, by simpa using h1⟩]; simp
  | x :: t, a, h0, h1 => by
    rw [sumS, List.sum_cons]
    by_cases hb : x < 0 ∨ 4294967295 - a < x
    · rw [if_pos hb, if_neg]
      rintro ⟨h2, h3⟩
      have h4 := h2 x (by simp)
      have h5 := sum_nonneg t (fun y hy => h2 y (List.mem_cons_of_mem _ hy))
      omega
    · rw [if_neg hb, sumS_eq t (a + x) (by omega) (by omega), Int.add_assoc]
      by_cases hc : (∀ y ∈ t, 0 ≤ y) ∧ a + (x + t.sum) ≤ 4294967295
      · rw [if_pos hc, if_pos ⟨fun y hy => by
          rcases List.mem_cons.1 hy with rfl | h
          · omega
          · exact hc.1 y h, hc.2⟩]
      · rw [if_neg hc, if_neg]
        rintro ⟨h2, h3⟩
        exact hc ⟨fun y hy => h2 y (List.mem_cons_of_mem _ hy), h3⟩
/-- Why numbers are no norms. -/
def chkT (l : List Int) (n : Int) : Int := if n < 5 ∨ 12 < n then 1 else if l.length ≤ 256 ∧ (∀ x ∈ l, 0 ≤ x) ∧ l.sum = 2 ^ n.toNat then 0 else 4
theorem two_le {n : Int} (h : ¬ (n < 5 ∨ 12 < n)) : (32 : Int) ≤ 2 ^ n.toNat ∧ (2 : Int) ^ n.toNat ≤ 4096 := by
  have : ∀ k : Nat, k ≤ 12 → 5 ≤ k → (32 : Int) ≤ 2 ^ k ∧ (2 : Int) ^ k ≤ 4096 := by decide
  exact this _ (by omega) (by omega)
theorem check_ev (l : List Int) (hl : l.length ≤ 1073741824) (n : Int) : Ev (fun k => tans_check.f k l n) (chkT l n) := by
  have e : ∀ k, tans_check.f k l n = tans_check.j0 k l n (decide (n < 5 ∨ 12 < n)) := by
    intro k
    unfold tans_check.f
    by_cases h : n < 5
    · rw [if_pos h, decide_eq_true (show n < 5 ∨ 12 < n from .inl h)]
    · rw [if_neg h]
      congr 1
      exact decide_eq_decide.2 ⟨fun h => .inr h, fun h' => by omega⟩
  refine Ev.eq e ?_
  unfold chkT
  by_cases h : n < 5 ∨ 12 < n
  · rw [if_pos h, decide_eq_true h]
    exact Ev.step (f := fun _ => some 1) (fun k => by simp only [tans_check.j0]; rw [if_pos trivial]) (Ev.now _)
  · rw [if_neg h, decide_eq_false h]
    refine Ev.step (f := fun k => (tans_sum.f k l).bind fun bt121 => (if (l.length : Int) > 256 then (some 4) else (if bt121.2 = true then (if 0 ≤ n then (if bt121.1 = (shl .i64 1 n) then (some 0) else (some 4)) else (none)) else (some 4)))) (fun k => by simp only [tans_check.j0]; rw [if_neg (by decide)]) ?_
    refine Ev.bind (sum_ev l hl) ?_
    have h2 := two_le h
    rw [sumS_eq l 0 (by omega) (by omega), Int.zero_add, shl64 (by omega) (by omega)]
    refine Ev.fixed ?_
    by_cases hl2 : l.length ≤ 256
    · rw [if_neg (by omega)]
      by_cases hp : (∀ x ∈ l, 0 ≤ x) ∧ l.sum ≤ 4294967295
      · rw [if_pos hp, if_pos (by rfl), if_pos (by omega)]
        by_cases hs : l.sum = 2 ^ n.toNat
        · rw [if_pos hs, if_pos ⟨hl2, hp.1, hs⟩]
        · rw [if_neg hs, if_neg (fun h => hs h.2.2)]
      · rw [if_neg hp, if_neg (by simp), if_neg (fun h => hp ⟨h.2.1, by rw [h.2.2]; omega⟩)]
    · rw [if_pos (by omega), if_neg (fun h => hl2 h.1)]
/-- The numbers of a row. -/
def nl (l : List Int) : List Nat := l.map Int.toNat
theorem nl_len (l : List Int) : (nl l).length = l.length := by simp [nl]
theorem nl_get (l : List Int) (i : Nat) : (nl l).getD i 0 = (l.getD i 0).toNat := by
  unfold nl
  rw [List.getD_eq_getElem?_getD, List.getD_eq_getElem?_getD, List.getElem?_map]
  cases l[i]? <;> rfl
theorem nl_sum : ∀ l : List Int, (∀ x ∈ l, 0 ≤ x) → ((nl l).sum : Int) = l.sum
  | [], _ => rfl
  | x :: t, h => by
    have h1 := h x (by simp)
    have h2 := nl_sum t (fun y hy => h y (List.mem_cons_of_mem _ hy))
    show ((x.toNat + (nl t).sum : Nat) : Int) = _
    rw [List.sum_cons]; omega
theorem take_sum (l : List Nat) (i : Nat) : (l.take (i + 1)).sum = (l.take i).sum + l.getD i 0 := by
  rw [List.take_add_one, List.sum_append, List.getD_eq_getElem?_getD]
  cases l[i]? <;> simp
theorem take_sum_le : ∀ (l : List Nat) (i : Nat), (l.take i).sum ≤ l.sum
  | [], i => by simp
  | x :: t, 0 => by simp
  | x :: t, i + 1 => by rw [List.take_succ_cons, List.sum_cons, List.sum_cons]; have := take_sum_le t i; omega
/-- What stands in the row of states when so many are laid. -/
def spT (n : Nat) (l : List Nat) (N c : Nat) : List Int := tabn N (fun x => if whn n x < c then (syF n l x : Int) else 0)
section
variable {n N : Nat} {l : List Int} (h5 : 5 ≤ n) (h12 : n ≤ 12) (hN : 2 ^ n = N) (hp : ∀ x ∈ l, 0 ≤ x) (hs : (nl l).sum = N) (hl : l.length ≤ 256)
include h5 h12 hN hs
theorem sp_at {i j : Nat} (hi : i < l.length) (hj : j < (nl l).getD i 0) : ((nl l).take i).sum + j < N ∧ syF n (nl l) (pos n (((nl l).take i).sum + j)) = i := by
  have h1 := take_sum (nl l) i
  have h2 := take_sum_le (nl l) (i + 1)
  have hlt : ((nl l).take i).sum + j < N := by omega
  refine ⟨hlt, ?_⟩
  unfold syF
  rw [whn_pos h5 h12 (by rw [hN]; exact hlt), seq_at (nl l) 0 i j (by rw [nl_len]; exact hi) hj, Nat.zero_add]
theorem sp_set {i j : Nat} (hi : i < l.length) (hj : j < (nl l).getD i 0) : (spT n (nl l) N (((nl l).take i).sum + j)).set (pos n (((nl l).take i).sum + j)) (i : Int) = spT n (nl l) N (((nl l).take i).sum + (j + 1)) := by
  obtain ⟨h1, h2⟩ := sp_at h5 h12 hN hs hi hj
  unfold spT
  rw [tabn_set]
  refine tabn_congr (fun x hx => ?_)
  have hiff := pos_iff (n := n) (k := ((nl l).take i).sum + j) (x := x) h5 h12 (by omega) (by omega)
  by_cases e : x = pos n (((nl l).take i).sum + j)
  · have e2 := hiff.1 e
    rw [if_pos e, if_pos (by omega), e, h2]
  · have e2 : whn n x ≠ ((nl l).take i).sum + j := fun h => e (hiff.2 h)
    rw [if_neg e]
    by_cases h3 : whn n x < ((nl l).take i).sum + j
    · rw [if_pos h3, if_pos (by omega)]
    · rw [if_neg h3, if_neg (by omega)]
end
theorem e_and {p N n : Nat} (h12 : n ≤ 12) (hN : 2 ^ n = N) (hp : p < N) : Go.bits .and .i64 (wrap64 ((wrap64 ((wrap64 ((p : Int) + ((N : Int) / 2))) + ((N : Int) / 8))) + 3)) (wrap64 ((N : Int) - 1)) = (((p + (N / 2 + N / 8 + 3)) % N : Nat) : Int) := by
  have hb : N ≤ 4096 := by
    have := Nat.pow_le_pow_right (n := 2) (by decide) h12
    rw [hN] at this
    exact this
  have e1 : wrap64 ((N : Int) - 1) = ((N - 1 : Nat) : Int) := by rw [w64 (by omega) (by omega)]; omega
  have e2 : wrap64 ((wrap64 ((wrap64 ((p : Int) + ((N : Int) / 2))) + ((N : Int) / 8))) + 3) = ((p + (N / 2 + N / 8 + 3) : Nat) : Int) := by
    rw [w64 (x := (p : Int) + (N : Int) / 2) (by omega) (by omega), w64 (x := (p : Int) + (N : Int) / 2 + (N : Int) / 8) (by omega) (by omega), w64 (by omega) (by omega)]
    omega
  rw [e1, e2, (bits_i64 _ _ (by omega) (by omega)).1, ← hN, Nat.and_two_pow_sub_one_eq_mod]
theorem e_mod {p N : Nat} (hb : N ≤ 4096) (hp : p < N) : Int.tmod (wrap64 ((wrap64 ((wrap64 ((p : Int) + (wrap64 (Int.tdiv (N : Int) 2)))) + (wrap64 (Int.tdiv (N : Int) 8)))) + 3)) (N : Int) = (((p + (N / 2 + N / 8 + 3)) % N : Nat) : Int) := by
  have e3 : Int.tdiv (N : Int) 2 = (N : Int) / 2 := Int.tdiv_eq_ediv_of_nonneg (by omega)
  have e4 : Int.tdiv (N : Int) 8 = (N : Int) / 8 := Int.tdiv_eq_ediv_of_nonneg (by omega)
  rw [e3, e4, w64 (x := (N : Int) / 2) (by omega) (by omega), w64 (x := (N : Int) / 8) (by omega) (by omega), w64 (x := (p : Int) + (N : Int) / 2) (by omega) (by omega), w64 (x := (p : Int) + (N : Int) / 2 + (N : Int) / 8) (by omega) (by omega), w64 (by omega) (by omega),
    Int.tmod_eq_emod_of_nonneg (by omega), show (p : Int) + (N : Int) / 2 + (N : Int) / 8 + 3 = ((p + (N / 2 + N / 8 + 3) : Nat) : Int) by omega, Int.natCast_emod]
theorem pos_step {n N : Nat} (hN : 2 ^ n = N) (c : Nat) : (pos n c + (N / 2 + N / 8 + 3)) % N = pos n (c + 1) := by
  have h2 := pos_succ n c
  unfold stp at h2
  rw [hN] at h2
  exact h2
section
variable {n N : Nat} {l : List Int} (h5 : 5 ≤ n) (h12 : n ≤ 12) (hN : 2 ^ n = N) (hp : ∀ x ∈ l, 0 ≤ x) (hs : (nl l).sum = N) (hl : l.length ≤ 256)
include h5 h12 hN
include hs hp hl
theorem spread_l1 (i : Nat) (hi : i < l.length) (R : List Int) (hr : Ev (fun k => tans_spread.l0 k (N : Int) (spT n (nl l) N ((nl l).take (i + 1)).sum) (pos n ((nl l).take (i + 1)).sum : Int) l (l.length : Int) ((i + 1 : Nat) : Int)) R) (d : Nat) :
    ∀ j, j + d = (nl l).getD i 0 → Ev (fun k => tans_spread.l1 k (N : Int) (spT n (nl l) N (((nl l).take i).sum + j)) (pos n (((nl l).take i).sum + j) : Int) (i : Int) l (l.length : Int) (i : Int) (((nl l).getD i 0 : Nat) : Int) (j : Int)) R := by
  induction d with
  | zero =>
    intro j hj
    obtain rfl : j = (nl l).getD i 0 := by omega
    refine Ev.step (f := fun k => tans_spread.l0 k (N : Int) (spT n (nl l) N ((nl l).take (i + 1)).sum) (pos n ((nl l).take (i + 1)).sum : Int) l (l.length : Int) ((i + 1 : Nat) : Int)) (fun k => ?_) hr
    simp only [tans_spread.l1]
    rw [if_neg (by omega), ← take_sum, w64 (by omega) (by omega)]
    rfl
  | succ d ih =>
    intro j hj
    obtain ⟨h1, h2⟩ := sp_at h5 h12 hN hs hi (show j < (nl l).getD i 0 by omega)
    have hp1 := pos_lt n (((nl l).take i).sum + j)
    have hb : N ≤ 4096 := by rw [← hN]; exact Nat.pow_le_pow_right (n := 2) (by decide) h12
    refine Ev.step (f := fun k => tans_spread.l1 k (N : Int) (spT n (nl l) N (((nl l).take i).sum + (j + 1))) (pos n (((nl l).take i).sum + (j + 1)) : Int) (i : Int) l (l.length : Int) (i : Int) (((nl l).getD i 0 : Nat) : Int) ((j + 1 : Nat) : Int)) (fun k => ?_) (ih (j + 1) (by omega))
    simp only [tans_spread.l1]
    rw [if_pos (by omega), if_pos (by omega), if_pos (by rw [show (spT n (nl l) N (((nl l).take i).sum + j)).length = N from tabn_length _ _]; omega), Int.toNat_natCast, sp_set h5 h12 hN hs hi (by omega), e_and h12 hN (by omega), pos_step hN, w64 (x := (j : Int) + 1) (by omega) (by omega), Nat.add_assoc]
    rfl
theorem spread_l0 (d : Nat) : ∀ i, i + d = l.length → Ev (fun k => tans_spread.l0 k (N : Int) (spT n (nl l) N ((nl l).take i).sum) (pos n ((nl l).take i).sum : Int) l (l.length : Int) (i : Int)) (tabn N (fun x => (syF n (nl l) x : Int))) := by
  induction d with
  | zero =>
    intro i hi
    obtain rfl : i = l.length := by omega
    refine Ev.step (f := fun _ => some (spT n (nl l) N ((nl l).take l.length).sum)) (fun k => ?_) (Ev.some ?_)
    · simp only [tans_spread.l0]
      rw [if_neg (by omega)]
    · rw [List.take_of_length_le (by rw [nl_len]; exact Nat.le_refl _), hs]
      refine tabn_congr (fun x hx => ?_)
      rw [if_pos (by rw [← hN]; exact whn_lt n x)]
  | succ d ih =>
    intro i hi
    have h := spread_l1 h5 h12 hN hp hs hl i (by omega) _ (ih (i + 1) (by omega)) ((nl l).getD i 0) 0 (by omega)
    refine Ev.step (f := fun k => tans_spread.l1 k (N : Int) (spT n (nl l) N (((nl l).take i).sum + 0)) (pos n (((nl l).take i).sum + 0) : Int) (i : Int) l (l.length : Int) (i : Int) (((nl l).getD i 0 : Nat) : Int) ((0 : Nat) : Int)) (fun k => ?_) h
    simp only [tans_spread.l0]
    have e : rd l (i : Int) = (((nl l).getD i 0 : Nat) : Int) := by
      rw [rd_nat, nl_get, List.getD_eq_getElem?_getD, List.getElem?_eq_getElem (by omega)]
      have := hp l[i] (List.getElem_mem _)
      simp only [Option.getD_some]
      omega
    rw [if_pos (by omega), if_pos (by omega), if_pos (by omega), e]
    rfl
theorem spread_ev : Ev (fun k => tans_spread.f k l (n : Int)) (tabn N (fun x => (syF n (nl l) x : Int))) := by
  have hb : N ≤ 4096 := by rw [← hN]; exact Nat.pow_le_pow_right (n := 2) (by decide) h12
  have e : shl .i64 1 (n : Int) = (N : Int) := by rw [shl64 (by omega) (by omega), Int.toNat_natCast, ← hN]; simp
  have h := spread_l0 h5 h12 hN hp hs hl l.length 0 (by omega)
  refine Ev.eq (fun k => ?_) h
  unfold tans_spread.f
  rw [e, if_pos (by omega), if_pos (by omega), if_pos (by omega), Int.toNat_natCast, tabn_zero]
  have e2 : spT n (nl l) N ((nl l).take 0).sum = tabn N (fun _ => 0) := tabn_congr (fun x _ => if_neg (by simp))
  rw [e2]
  show _ = tans_spread.l0 k (N : Int) (tabn N fun _ => 0) (pos n ([] : List Nat).sum : Int) l (l.length : Int) ((0 : Nat) : Int)
  rw [List.sum_nil, pos_zero]
  rfl
end
/-! ### the reference's -/
theorem u64_nat {n : Int} (h : ¬ (n < 5 ∨ 12 < n)) : IntKind.u64.wrap n = n := wu64 (by omega) (by omega)
def refS (l : List Int) (n : Int) : List Int × Int := if chkT l n = 0 then (tabn (2 ^ n.toNat) (fun x => (syF n.toNat (nl l) x : Int)), 0) else ([], chkT l n)
theorem rsum_ev (l : List Int) (hl : l.length ≤ 1073741824) (hb : ∀ x ∈ l, 0 ≤ x ∧ x ≤ 1073741824) : Ev (fun k => gladstoneref59_sum.f k l) l.sum := by
  have h := Ev.along l (fun k s i => gladstoneref59_sum.l0 k l s i) (fun s t => s + t.sum) (fun i s => 0 ≤ s ∧ s ≤ 1073741824 * i) ?_ ?_ 0 0 (Nat.zero_le _) (by omega)
  · rw [Int.zero_add] at h
    exact h
  · intro s _
    refine Ev.step (f := fun _ => some s) (fun k => ?_) (Ev.some (by simp))
    simp only [gladstoneref59_sum.l0]
    rw [if_neg (by omega)]
  · intro i s a t hs hd ha hlt ih
    have h1 := hb a (List.mem_of_getElem? ha)
    rw [List.sum_cons, ← Int.add_assoc]
    refine Ev.step (f := fun k => gladstoneref59_sum.l0 k l (s + a) ((i + 1 : Nat) : Int)) (fun k => ?_) (ih _ (by omega))
    simp only [gladstoneref59_sum.l0]
    rw [if_pos (by omega), if_pos (by omega), rd_some ha, w64 (x := s + a) (by omega) (by omega), w64 (x := (i : Int) + 1) (by omega) (by omega)]
    rfl
section
variable {n N : Nat} {l : List Int} (h5 : 5 ≤ n) (h12 : n ≤ 12) (hN : 2 ^ n = N) (hp : ∀ x ∈ l, 0 ≤ x) (hs : (nl l).sum = N) (hl : l.length ≤ 256)
include h5 h12 hN hs hp hl
theorem rspread_l2 (i : Nat) (hi : i < l.length) (R : List Int × Int) (hr : Ev (fun k => gladstoneref59_Spread.l1 k l (N : Int) (spT n (nl l) N ((nl l).take (i + 1)).sum) (pos n ((nl l).take (i + 1)).sum : Int) ((i + 1 : Nat) : Int)) R) (d : Nat) :
    ∀ j, j + d = (nl l).getD i 0 → Ev (fun k => gladstoneref59_Spread.l2 k l (N : Int) (spT n (nl l) N (((nl l).take i).sum + j)) (pos n (((nl l).take i).sum + j) : Int) (i : Int) (j : Int)) R := by
  have hb : N ≤ 4096 := by
    have := Nat.pow_le_pow_right (n := 2) (by decide) h12
    rw [hN] at this
    exact this
  have h0 : 0 < N := by rw [← hN]; exact Nat.two_pow_pos _
  have e : rd l (i : Int) = (((nl l).getD i 0 : Nat) : Int) := by
    rw [rd_nat, nl_get, List.getD_eq_getElem?_getD, List.getElem?_eq_getElem (by omega)]
    have := hp l[i] (List.getElem_mem _)
    simp only [Option.getD_some]
    omega
  induction d with
  | zero =>
    intro j hj
    obtain rfl : j = (nl l).getD i 0 := by omega
    refine Ev.step (f := fun k => gladstoneref59_Spread.l1 k l (N : Int) (spT n (nl l) N ((nl l).take (i + 1)).sum) (pos n ((nl l).take (i + 1)).sum : Int) ((i + 1 : Nat) : Int)) (fun k => ?_) hr
    simp only [gladstoneref59_Spread.l2]
    rw [if_pos (by omega), if_pos (by omega), e, if_neg (by omega), ← take_sum, w64 (by omega) (by omega)]
    rfl
  | succ d ih =>
    intro j hj
    obtain ⟨h1, h2⟩ := sp_at h5 h12 hN hs hi (show j < (nl l).getD i 0 by omega)
    have hp1 := pos_lt n (((nl l).take i).sum + j)
    refine Ev.step (f := fun k => gladstoneref59_Spread.l2 k l (N : Int) (spT n (nl l) N (((nl l).take i).sum + (j + 1))) (pos n (((nl l).take i).sum + (j + 1)) : Int) (i : Int) ((j + 1 : Nat) : Int)) (fun k => ?_) (ih (j + 1) (by omega))
    simp only [gladstoneref59_Spread.l2]
    have h3 : (nl l).getD i 0 ≤ N := by have := take_sum (nl l) i; have := take_sum_le (nl l) (i + 1); omega
    rw [if_pos (by omega), if_pos (by omega), e, if_pos (by omega), if_pos (by omega), if_pos (by rw [show (spT n (nl l) N (((nl l).take i).sum + j)).length = N from tabn_length _ _]; omega), if_neg (by omega), Int.toNat_natCast, sp_set h5 h12 hN hs hi (by omega), e_mod hb (by omega), pos_step hN, w64 (x := (j : Int) + 1) (by omega) (by omega), Nat.add_assoc]
    rfl
theorem rspread_l1 (d : Nat) : ∀ i, i + d = l.length → Ev (fun k => gladstoneref59_Spread.l1 k l (N : Int) (spT n (nl l) N ((nl l).take i).sum) (pos n ((nl l).take i).sum : Int) (i : Int)) (tabn N (fun x => (syF n (nl l) x : Int)), 0) := by
  induction d with
  | zero =>
    intro i hi
    obtain rfl : i = l.length := by omega
    refine Ev.step (f := fun _ => some (spT n (nl l) N ((nl l).take l.length).sum, 0)) (fun k => ?_) (Ev.some ?_)
    · simp only [gladstoneref59_Spread.l1]
      rw [if_neg (by omega)]
    · rw [List.take_of_length_le (by rw [nl_len]; exact Nat.le_refl _), hs]
      congr 1
      refine tabn_congr (fun x hx => ?_)
      rw [if_pos (by rw [← hN]; exact whn_lt n x)]
  | succ d ih =>
    intro i hi
    have h := rspread_l2 h5 h12 hN hp hs hl i (by omega) _ (ih (i + 1) (by omega)) ((nl l).getD i 0) 0 (by omega)
    refine Ev.step (f := fun k => gladstoneref59_Spread.l2 k l (N : Int) (spT n (nl l) N (((nl l).take i).sum + 0)) (pos n (((nl l).take i).sum + 0) : Int) (i : Int) ((0 : Nat) : Int)) (fun k => ?_) h
    simp only [gladstoneref59_Spread.l1]
    rw [if_pos (by omega)]
    rfl
end
theorem nl_sum_eq {l : List Int} {n : Nat} (hp : ∀ x ∈ l, 0 ≤ x) (hs : l.sum = 2 ^ n) : (nl l).sum = 2 ^ n := by
  have h := nl_sum l hp
  rw [hs] at h
  have e : ((2 : Int) ^ n) = ((2 ^ n : Nat) : Int) := by simp
  rw [e] at h
  exact Int.ofNat_inj.1 h
theorem mem_le_sum : ∀ (l : List Int), (∀ x ∈ l, 0 ≤ x) → ∀ x ∈ l, x ≤ l.sum
  | [], _, x, h => by cases h
  | y :: t, h, x, hx => by
    have h1 := h y (by simp)
    have h2 := sum_nonneg t (fun z hz => h z (List.mem_cons_of_mem _ hz))
    rw [List.sum_cons]
    rcases List.mem_cons.1 hx with rfl | hx
    · omega
    · have := mem_le_sum t (fun z hz => h z (List.mem_cons_of_mem _ hz)) x hx
      omega
/-- The reference's Spread. -/
theorem rspread_ev (l : List Int) (hl : l.length ≤ 1073741824) (n : Int) : Ev (fun k => gladstoneref59_Spread.f k l n) (refS l n) := by
  have e : ∀ k, gladstoneref59_Spread.f k l n = gladstoneref59_Spread.j0 k l n (decide (n < 5 ∨ 12 < n)) := by
    intro k
    unfold gladstoneref59_Spread.f
    by_cases h : n < 5
    · rw [if_pos h, decide_eq_true (show n < 5 ∨ 12 < n from .inl h)]
    · rw [if_neg h]
      congr 1
      exact decide_eq_decide.2 ⟨fun h => .inr h, fun h' => by omega⟩
  refine Ev.eq e ?_
  unfold refS
  by_cases h : n < 5 ∨ 12 < n
  · have hc : chkT l n = 1 := by unfold chkT; rw [if_pos h]
    rw [decide_eq_true h, hc, if_neg (by decide)]
    exact Ev.step (f := fun _ => some ([], 1)) (fun k => by simp only [gladstoneref59_Spread.j0]; rw [if_pos (by simp)]) (Ev.now _)
  · rw [decide_eq_false h]
    obtain ⟨nn, rfl⟩ : ∃ nn : Nat, n = (nn : Int) := ⟨n.toNat, by omega⟩
    have h2 := two_le h
    have eN : ((2 : Int) ^ nn) = ((2 ^ nn : Nat) : Int) := by simp
    rw [Int.toNat_natCast, eN] at h2
    rw [Int.toNat_natCast]
    by_cases h256 : l.length ≤ 256
    case neg =>
      have hc : chkT l nn = 4 := by unfold chkT; rw [if_neg h, if_neg (fun h => h256 h.1)]
      rw [hc, if_neg (by decide)]
      exact Ev.step (f := fun _ => some ([], 4)) (fun k => by simp only [gladstoneref59_Spread.j0]; rw [if_neg (by decide), u64_nat h, if_pos (by omega), if_pos (by omega)]) (Ev.now _)
    refine Ev.step (f := fun k => gladstoneref59_Spread.l0 k l ((2 ^ nn : Nat) : Int) 0) (fun k => ?_) ?_
    · simp only [gladstoneref59_Spread.j0]
      rw [if_neg (by decide), u64_nat h, if_pos (by omega), if_neg (by omega), shl64 (by omega) (by omega), Int.toNat_natCast, eN]
    · have key := Ev.along l (fun k (_ : Unit) i => gladstoneref59_Spread.l0 k l ((2 ^ nn : Nat) : Int) i) (fun _ t => if (∀ x ∈ t, 0 ≤ x ∧ x ≤ ((2 ^ nn : Nat) : Int)) then (if l.sum = ((2 ^ nn : Nat) : Int) then (tabn (2 ^ nn) (fun x => (syF nn (nl l) x : Int)), 0) else ([], 4)) else ([], 4)) (fun i _ => ∀ x ∈ l.take i, 0 ≤ x ∧ x ≤ ((2 ^ nn : Nat) : Int)) ?_ ?_ 0 () (Nat.zero_le _) (by simp)
      · have e2 : (if chkT l (nn : Int) = 0 then (tabn (2 ^ nn) (fun x => (syF nn (nl l) x : Int)), (0 : Int)) else ([], chkT l (nn : Int))) = (if (∀ x ∈ l, 0 ≤ x ∧ x ≤ ((2 ^ nn : Nat) : Int)) then (if l.sum = ((2 ^ nn : Nat) : Int) then (tabn (2 ^ nn) (fun x => (syF nn (nl l) x : Int)), 0) else ([], 4)) else ([], 4)) := by
          unfold chkT
          rw [if_neg h, Int.toNat_natCast, eN]
          by_cases hc : l.length ≤ 256 ∧ (∀ x ∈ l, 0 ≤ x) ∧ l.sum = ((2 ^ nn : Nat) : Int)
          · rw [if_pos hc, if_pos rfl, if_pos (fun x hx => ⟨hc.2.1 x hx, by rw [← hc.2.2]; exact mem_le_sum l hc.2.1 x hx⟩), if_pos hc.2.2]
          · rw [if_neg hc, if_neg (by decide)]
            by_cases h3 : ∀ x ∈ l, 0 ≤ x ∧ x ≤ ((2 ^ nn : Nat) : Int)
            · rw [if_pos h3, if_neg (fun hs => hc ⟨h256, fun x hx => (h3 x hx).1, hs⟩)]
            · rw [if_neg h3]
        rw [e2]
        exact key
      · intro _ hall
        rw [List.take_length] at hall
        rw [if_pos (by simp)]
        have hp : ∀ x ∈ l, 0 ≤ x := fun x hx => (hall x hx).1
        refine Ev.step (f := fun k => (gladstoneref59_sum.f k l).bind fun t251 => (if t251 = ((2 ^ nn : Nat) : Int) then (if 0 ≤ ((2 ^ nn : Nat) : Int) then (if (((2 ^ nn : Nat) : Int) : Int).toNat ≤ 35184372088832 then (gladstoneref59_Spread.l1 k l ((2 ^ nn : Nat) : Int) (List.replicate (((2 ^ nn : Nat) : Int) : Int).toNat 0) 0 0) else (none)) else (none)) else (some (([] : List Int), 4)))) (fun k => ?_) ?_
        · simp only [gladstoneref59_Spread.l0]
          rw [if_neg (by omega)]
        · refine Ev.bind (rsum_ev l hl (fun x hx => ⟨(hall x hx).1, by have := (hall x hx).2; omega⟩)) ?_
          by_cases hs : l.sum = ((2 ^ nn : Nat) : Int)
          · rw [if_pos hs]
            have hr := rspread_l1 (n := nn) (N := 2 ^ nn) (by omega) (by omega) rfl hp (nl_sum_eq hp (by rw [hs, eN])) h256 l.length 0 (by omega)
            refine Ev.eq (fun k => ?_) hr
            rw [if_pos hs, if_pos (by omega), if_pos (by rw [Int.toNat_natCast]; omega), Int.toNat_natCast, tabn_zero]
            have e2 : spT nn (nl l) (2 ^ nn) ((nl l).take 0).sum = tabn (2 ^ nn) (fun _ => 0) := tabn_congr (fun x _ => if_neg (by simp))
            rw [e2]
            show _ = gladstoneref59_Spread.l1 k l ((2 ^ nn : Nat) : Int) (tabn (2 ^ nn) fun _ => 0) (pos nn ([] : List Nat).sum : Int) ((0 : Nat) : Int)
            rw [List.sum_nil, pos_zero]
            rfl
          · rw [if_neg hs]
            exact Ev.eq (fun k => by rw [if_neg hs]) (Ev.now _)
      · intro i _ a t hall hd ha hlt ih
        by_cases hb : 0 ≤ a ∧ a ≤ ((2 ^ nn : Nat) : Int)
        · refine Ev.step (f := fun k => gladstoneref59_Spread.l0 k l ((2 ^ nn : Nat) : Int) ((i + 1 : Nat) : Int)) (fun k => ?_) ?_
          · simp only [gladstoneref59_Spread.l0]
            rw [if_pos (by omega), if_pos (by omega), rd_some ha, if_neg (by omega), if_neg (by omega), w64 (by omega) (by omega)]
            rfl
          · have h3 := ih () (by
              rw [List.take_add_one, ha]
              intro x hx
              rcases List.mem_append.1 hx with hx | hx
              · exact hall x hx
              · simp at hx; subst hx; exact hb)
            have e2 : (∀ x ∈ a :: t, 0 ≤ x ∧ x ≤ ((2 ^ nn : Nat) : Int)) ↔ (∀ x ∈ t, 0 ≤ x ∧ x ≤ ((2 ^ nn : Nat) : Int)) := ⟨fun h x hx => h x (List.mem_cons_of_mem _ hx), fun h x hx => by
              rcases List.mem_cons.1 hx with rfl | hx
              · exact hb
              · exact h x hx⟩
            simp only [e2]
            exact h3
        · rw [if_neg (fun h => hb (h a (by simp)))]
          refine Ev.step (f := fun _ => some ([], 4)) (fun k => ?_) (Ev.now _)
          simp only [gladstoneref59_Spread.l0]
          rw [if_pos (by omega), if_pos (by omega), rd_some ha]
          by_cases h0 : a < 0
          · rw [if_pos h0]
          · rw [if_neg h0, if_pos (by omega)]
/-- The program's Spread. -/
theorem tspread_ev (l : List Int) (hl : l.length ≤ 1073741824) (n : Int) : Ev (fun k => tans_Spread.f k l n) (refS l n) := by
  refine Ev.eq (fun k => by unfold tans_Spread.f; rfl) ?_
  refine Ev.bind (check_ev l hl n) ?_
  unfold refS
  by_cases h : chkT l n = 0
  · rw [if_pos h]
    have hn : ¬ (n < 5 ∨ 12 < n) := fun hn => by unfold chkT at h; rw [if_pos hn] at h; cases h
    have hc : l.length ≤ 256 ∧ (∀ x ∈ l, 0 ≤ x) ∧ l.sum = 2 ^ n.toNat := by
      unfold chkT at h
      rw [if_neg hn] at h
      by_cases hc : l.length ≤ 256 ∧ (∀ x ∈ l, 0 ≤ x) ∧ l.sum = 2 ^ n.toNat
      · exact hc
      · rw [if_neg hc] at h; cases h
    have hs := spread_ev (n := n.toNat) (N := 2 ^ n.toNat) (by omega) (by omega) rfl hc.2.1 (nl_sum_eq hc.2.1 hc.2.2) hc.1
    rw [Int.toNat_of_nonneg (by omega)] at hs
    refine Ev.eq (fun k => by rw [if_pos h]) (Ev.bind hs (Ev.now _))
  · rw [if_neg h]
    exact Ev.eq (fun k => by rw [if_neg h]) (Ev.now _)
end Go.Proofs.Ytoondlhlcmjniaa.Pure
