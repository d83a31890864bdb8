/- Parts that cost least: what is computed, plainly. -/
import Derived.Test.YtdejkajdlflabaaPureIlB
import Derived.Test.YtdejkajdlflabaaCn
import Derived.Test.YtdejkajdlflabaaByt
set_option linter.unusedVariables false
set_option linter.unusedSimpArgs false
set_option linter.unusedSectionVars false
namespace Go.Proofs.Ytdejkajdlflabaa.Pure
open Go.RowKit Go.Proofs.YtdejkajdlflabaaW.PrintWords Go.Proofs.YtdejkajdlflabaaW.PrintMore Go.Proofs.Ytdejkajdlflabaa.Hd Go.Proofs.Ytdejkajdlflabaa.P Go.Proofs.Ytdejkajdlflabaa.Com Go.Proofs.Ytdejkajdlflabaa.Cn
/-- Sixteenths of bits of a number. -/
def lgC (n : Nat) : Nat := 16 * n.log2 + gb 4 (up31 n n.log2)
theorem log2_of {n k : Nat} (h1 : 2 ^ k ≤ n) (h2 : n < 2 * 2 ^ k) : n.log2 = k := by
  have h0 : n ≠ 0 := by have := Nat.two_pow_pos k; omega
  refine (Nat.log2_eq_iff h0).2 ⟨h1, ?_⟩
  rw [Nat.pow_succ]; omega
theorem LG_C (n : Nat) (h1 : 1 ≤ n) (h2 : n < 4294967296) : LG (n : Int) = ((lgC n : Int), 0) := by
  obtain ⟨k, a, b, c, d⟩ := LG_in n h1 h2
  rw [d]
  unfold lgv lgC
  rw [log2_of b c]
theorem lgC_bd (n : Nat) (h1 : 1 ≤ n) (h2 : n < 4294967296) : lgC n < 512 := by
  obtain ⟨k, a, b, c, d⟩ := LG_in n h1 h2
  unfold lgC
  rw [log2_of b c]
  obtain ⟨c1, c2⟩ := up31_bd n k a b c
  have := gb_lt 4 _ c1 c2
  simp at this
  omega
theorem lgC_mono {n m : Nat} (h1 : 1 ≤ n) (h : n ≤ m) (h2 : m < 4294967296) : lgC n ≤ lgC m := by
  obtain ⟨k, a, b, c, d⟩ := LG_in n h1 (by omega)
  obtain ⟨k2, a2, b2, c2, d2⟩ := LG_in m (by omega) h2
  have := lgv_mono n m k k2 a a2 b c b2 c2 h
  unfold lgv at this
  unfold lgC
  rw [log2_of b c, log2_of b2 c2]
  omega
/-- A number times its bits. -/
def W (n : Nat) : Nat := n * lgC n
theorem W_bd {n : Nat} (h2 : n ≤ 67108864) : W n ≤ 34359738368 := by
  unfold W
  by_cases h : n = 0
  · rw [h]; simp
  · have := lgC_bd n (by omega) (by omega)
    have := Nat.mul_le_mul h2 (Nat.le_of_lt this)
    omega
theorem W_mono {n m : Nat} (h : n ≤ m) (h2 : m < 4294967296) : W n ≤ W m := by
  unfold W
  by_cases h0 : n = 0
  · rw [h0]; simp
  · exact Nat.mul_le_mul h (lgC_mono (by omega) h h2)
def sumN (f : Nat → Nat) : Nat → Nat
  | 0 => 0
  | n + 1 => sumN f n + f n
theorem sumN_congr {f g : Nat → Nat} (n : Nat) (h : ∀ j, j < n → f j = g j) : sumN f n = sumN g n := by
  induction n with
  | zero => rfl
  | succ n ih => rw [sumN, sumN, ih (fun j hj => h j (by omega)), h n (by omega)]
theorem sumN_one {f g : Nat → Nat} {c : Nat} (n : Nat) (hc : c < n) (h : ∀ j, j ≠ c → f j = g j) : sumN f n + g c = sumN g n + f c := by
  induction n with
  | zero => omega
  | succ n ih =>
    rw [sumN, sumN]
    by_cases e : c = n
    · subst e
      rw [sumN_congr c (fun j hj => h j (by omega))]
      omega
    · have := ih (by omega)
      rw [h n (fun e' => e e'.symm)]
      omega
/-- What is spared. -/
def spd (bs : List Nat) : Nat := sumN (fun j => W (bs.count j)) 256
theorem sumN_zero (f : Nat → Nat) (h : ∀ j, f j = 0) (n : Nat) : sumN f n = 0 := by
  induction n with
  | zero => rfl
  | succ n ih => rw [sumN, ih, h]
theorem spd_nil : spd [] = 0 := sumN_zero _ (fun j => by simp [W]) _
theorem spd_add (bs : List Nat) {c : Nat} (hc : c < 256) : spd (bs ++ [c]) + W (bs.count c) = spd bs + W (bs.count c + 1) := by
  have h := sumN_one (f := fun j => W ((bs ++ [c]).count j)) (g := fun j => W (bs.count j)) (c := c) 256 hc (fun j hj => by
    simp only [List.count_append]
    rw [List.count_singleton]
    have : (c == j) = false := by simpa using fun e => hj e.symm
    rw [this]; simp)
  have h2 : spd (bs ++ [c]) + W (bs.count c) = spd bs + W ((bs ++ [c]).count c) := h
  have e : (bs ++ [c]).count c = bs.count c + 1 := by rw [List.count_append, List.count_singleton_self]
  rw [e] at h2
  exact h2
theorem sumN_le (f : Nat → Nat) (g : Nat → Nat) (n : Nat) (h : ∀ j, j < n → f j ≤ g j) : sumN f n ≤ sumN g n := by
  induction n with
  | zero => exact Nat.le_refl _
  | succ n ih => rw [sumN, sumN]; have := ih (fun j hj => h j (by omega)); have := h n (by omega); omega
theorem sumN_mul (f : Nat → Nat) (a n : Nat) : sumN (fun j => f j * a) n = sumN f n * a := by
  induction n with
  | zero => simp [sumN]
  | succ n ih => simp only [sumN]; rw [ih, Nat.add_mul]
theorem count_sum (bs : List Nat) (h : ∀ x ∈ bs, x < 256) : sumN (fun j => bs.count j) 256 = bs.length := by
  induction bs with
  | nil => exact sumN_zero _ (fun j => by simp) _
  | cons b t ih =>
    have h1 := ih (fun x hx => h x (List.mem_cons_of_mem _ hx))
    have h2 := sumN_one (f := fun j => (b :: t).count j) (g := fun j => t.count j) (c := b) 256 (h b (List.mem_cons_self ..)) (fun j hj => by
      rw [List.count_cons]
      have : (b == j) = false := by simpa using fun e => hj e.symm
      rw [this]; simp)
    simp only [List.count_cons_self] at h2
    rw [h1] at h2
    rw [List.length_cons]
    omega
/-- All together never need more than if each needed as many bits as all have. -/
theorem spd_le (bs : List Nat) (h : ∀ x ∈ bs, x < 256) (hl : bs.length < 4294967296) : spd bs ≤ W bs.length := by
  have h1 : spd bs ≤ sumN (fun j => bs.count j * lgC bs.length) 256 := by
    refine sumN_le _ _ 256 (fun j _ => ?_)
    unfold W
    by_cases h0 : bs.count j = 0
    · rw [h0]; simp
    · exact Nat.mul_le_mul_left _ (lgC_mono (by omega) List.count_le_length hl)
  rw [sumN_mul, count_sum bs h] at h1
  exact h1
def costP (bs : List Nat) (fee : Int) : Int := (W bs.length : Int) - (spd bs : Int) + fee
def costQ (bs : List Nat) (fee : Int) : Int := if bs = [] then 0 else costP bs fee
/-- The meter's cells. -/
def mtr (bs : List Nat) : List Int := tabn 258 (fun j => if j < 256 then (bs.count j : Int) else if j = 256 then (bs.length : Int) else (spd bs : Int))
/-- The first of those that are less than all others. -/
def lst (best : Nat × Int) : List (Nat × Int) → Nat × Int
  | [] => best
  | x :: t => lst (if x.2 < best.2 then x else best) t
def cands (size : Nat) (f : Nat → Int) : List (Nat × Int) := (List.range size).map (fun j => (size - j, f (size - j)))
def pickP (size : Nat) (f : Nat → Int) : Nat × Int := match cands size f with
  | [] => (0, 0)
  | x :: t => lst x t
/-- All ways from a place on. -/
def wayL (most : Nat) (fee : Int) : List Nat → List (Nat × Int)
  | [] => [(0, 0)]
  | b :: t => pickP (min most (t.length + 1)) (fun n => costP ((b :: t).take n) fee + ((wayL most fee t).getD (n - 1) (0, 0)).2) :: wayL most fee t
def szs : Nat → List (Nat × Int) → List Nat
  | 0, _ => []
  | _ + 1, [] => []
  | _ + 1, [_] => []
  | k + 1, w :: v :: t => w.1 :: szs k ((w :: v :: t).drop w.1)
def mayB (n : Nat) (most fee : Int) : Bool := !(decide (most < 1) || decide (65536 < most) || decide (fee < 0) || decide (1048576 < fee) || decide (4096 < n))
def splitP (bs : List Nat) (most fee : Int) : List Int × Int × Int :=
  if mayB bs.length most fee then ((szs bs.length (wayL most.toNat fee bs)).map (fun n : Nat => (n : Int)), ((wayL most.toNat fee bs).headD (0, 0)).2, 0) else ([], 0, 1)
theorem wayL_length (most : Nat) (fee : Int) (bs : List Nat) : (wayL most fee bs).length = bs.length + 1 := by
  induction bs with
  | nil => rfl
  | cons b t ih => rw [wayL, List.length_cons, ih, List.length_cons]
end Go.Proofs.Ytdejkajdlflabaa.Pure
