/- tans: norms. -/
import Derived.Test.YtoondlhlcmjniaaZPureTnA
import Derived.Test.YtoondlhlcmjniaaZHTnA
import Derived.Test.YtoondlhlcmjniaaZPx1
import Derived.Test.YtoondlhlcmjniaaZPx2
import Derived.Test.YtoondlhlcmjniaaZPx3
import Derived.Test.YtoondlhlcmjniaaZPx6
set_option linter.unusedVariables false
set_option linter.unusedSimpArgs false
set_option linter.unusedSectionVars false
namespace Go.Proofs.Ytoondlhlcmjniaa.Pure
open Go.RowKit Go.Proofs.YtoondlhlcmjniaaW.PrintWords Go.Proofs.YtoondlhlcmjniaaW.PrintMore Go.Proofs.Ytoondlhlcmjniaa.P Go.Proofs.Ytoondlhlcmjniaa.Com Go.Proofs.Ytoondlhlcmjniaa.Tn Go.Proofs.Ytoondlhlcmjniaa.Hd
open Go.Proofs.Ytoondlhlcmjniaa.Cn hiding pos
/-! ### the first greatest number -/
def IsG (l : List Int) (i : Nat) : Prop := i < l.length ∧ (∀ j, j < l.length → l.getD j 0 ≤ l.getD i 0) ∧ (∀ j, j < i → l.getD j 0 < l.getD i 0)
def gR (l : List Int) : Nat → Nat → Nat → Nat
  | 0, _, a => a
  | d + 1, i, a => gR l d (i + 1) (if l.getD a 0 < l.getD i 0 then i else a)
def gI (l : List Int) : Nat := gR l l.length 0 0
theorem gR_is (l : List Int) : ∀ d i a, i + d = l.length → a < l.length → (∀ j, j < i → l.getD j 0 ≤ l.getD a 0) → (∀ j, j < a → l.getD j 0 < l.getD a 0) → (a ≤ i) → IsG l (gR l d i a)
  | 0, i, a, hi, ha, h1, h2, h3 => ⟨ha, fun j hj => h1 j (by omega), h2⟩
  | d + 1, i, a, hi, ha, h1, h2, h3 => by
    rw [gR]
    by_cases h : l.getD a 0 < l.getD i 0
    · rw [if_pos h]
      refine gR_is l d (i + 1) i (by omega) (by omega) (fun j hj => ?_) (fun j hj => ?_) (by omega)
      · rcases Nat.lt_or_ge j i with e | e
        · have := h1 j e; omega
        · obtain rfl : j = i := by omega
          exact Int.le_refl _
      · have := h1 j hj; omega
    · rw [if_neg h]
      refine gR_is l d (i + 1) a (by omega) ha (fun j hj => ?_) h2 (by omega)
      rcases Nat.lt_or_ge j i with e | e
      · exact h1 j e
      · obtain rfl : j = i := by omega
        omega
theorem gI_is {l : List Int} (h : 0 < l.length) : IsG l (gI l) := gR_is l l.length 0 0 (by omega) h (fun j hj => by omega) (fun j hj => by omega) (by omega)
theorem rd_at {l : List Int} {i : Nat} : rd l (i : Int) = l.getD i 0 := rd_nat l i
theorem rgreatest_l0 (l : List Int) (hl : l.length ≤ 1073741824) : ∀ d i a, i + d = l.length → (a < l.length ∨ d = 0) → Ev (fun k => gladstoneref59_greatest.l0 k l (a : Int) (i : Int)) ((gR l d i a : Nat) : Int)
  | 0, i, a, hi, _ => by
    refine Ev.step (f := fun _ => some (a : Int)) (fun k => ?_) (Ev.now _)
    simp only [gladstoneref59_greatest.l0]
    rw [if_neg (by omega)]
  | d + 1, i, a, hi, ha => by
    have ha : a < l.length := by omega
    rw [gR]
    refine Ev.step (f := fun k => gladstoneref59_greatest.l0 k l ((if l.getD a 0 < l.getD i 0 then i else a : Nat) : Int) ((i + 1 : Nat) : Int)) (fun k => ?_) (rgreatest_l0 l hl d (i + 1) _ (by omega) (by left; split <;> omega))
    simp only [gladstoneref59_greatest.l0]
    rw [if_pos (by omega), if_pos (by omega), if_pos (by omega), if_pos (by omega), rd_at, rd_at, w64 (by omega) (by omega)]
    by_cases h : l.getD a 0 < l.getD i 0
    · rw [if_pos h, if_pos h]; rfl
    · rw [if_neg h, if_neg h]; rfl
theorem rgreatest_ev (l : List Int) (hl : l.length ≤ 1073741824) (h0 : 0 < l.length) : Ev (fun k => gladstoneref59_greatest.f k l) ((gI l : Nat) : Int) := rgreatest_l0 l hl l.length 0 0 (by omega) (by omega)
theorem maxI_is : ∀ (l : List Int) (m : Int), m ≤ maxI m l ∧ (∀ x ∈ l, x ≤ maxI m l) ∧ (maxI m l = m ∨ maxI m l ∈ l)
  | [], m => ⟨Int.le_refl _, by simp, .inl rfl⟩
  | x :: t, m => by
    obtain ⟨h1, h2, h3⟩ := maxI_is t (max m x)
    rw [maxI]
    refine ⟨by omega, fun y hy => ?_, ?_⟩
    · rcases List.mem_cons.1 hy with rfl | hy
      · omega
      · exact h2 y hy
    · rcases h3 with h | h
      · rw [h]
        rcases Int.le_total m x with e | e
        · right; rw [Int.max_eq_right e]; simp
        · left; rw [Int.max_eq_left e]
      · exact .inr (List.mem_cons_of_mem _ h)
theorem maxL_is {l : List Int} (h : 0 < l.length) : maxL l = l.getD (gI l) 0 := by
  have hg := gI_is h
  cases l with
  | nil => simp at h
  | cons x t =>
    unfold maxL
    show maxI x t = _
    obtain ⟨h1, h2, h3⟩ := maxI_is t x
    have hm : maxI x t ∈ x :: t := by
      rcases h3 with h | h
      · rw [h]; simp
      · exact List.mem_cons_of_mem _ h
    obtain ⟨j, hj, e⟩ := List.getElem_of_mem hm
    have a1 := hg.2.1 j hj
    rw [List.getD_eq_getElem?_getD, List.getElem?_eq_getElem hj, e] at a1
    have a2 : (x :: t).getD (gI (x :: t)) 0 ∈ x :: t := by
      rw [List.getD_eq_getElem?_getD, List.getElem?_eq_getElem hg.1]; exact List.getElem_mem _
    have a3 : (x :: t).getD (gI (x :: t)) 0 ≤ maxI x t := by
      rcases List.mem_cons.1 a2 with h | h
      · rw [h]; exact h1
      · exact h2 _ h
    exact Int.le_antisymm a1 a3
theorem index_l0 (l : List Int) (hl : l.length ≤ 1073741824) (h0 : 0 < l.length) : ∀ d i, i + d = gI l → Ev (fun k => slices_Index_int_int.l0 k l (maxL l) (l.length : Int) (i : Int)) ((gI l : Nat) : Int)
  | 0, i, hi => by
    have hg := gI_is h0
    obtain rfl : i = gI l := by omega
    have := hg.1
    refine Ev.step (f := fun _ => some ((gI l : Nat) : Int)) (fun k => ?_) (Ev.now _)
    simp only [slices_Index_int_int.l0]
    rw [if_pos (by omega), if_pos (by omega), if_pos (by omega), rd_at, if_pos (maxL_is h0)]
  | d + 1, i, hi => by
    have hg := gI_is h0
    have := hg.1
    refine Ev.step (f := fun k => slices_Index_int_int.l0 k l (maxL l) (l.length : Int) ((i + 1 : Nat) : Int)) (fun k => ?_) (index_l0 l hl h0 d (i + 1) (by omega))
    simp only [slices_Index_int_int.l0]
    have h2 := hg.2.2 i (by omega)
    have h3 := maxL_is h0
    rw [if_pos (by omega), if_pos (by omega), if_pos (by omega), rd_at, if_neg (by omega), w64 (by omega) (by omega)]
    rfl
theorem greatest_ev (l : List Int) (hl : l.length ≤ 1073741824) (h0 : 0 < l.length) : Ev (fun k => tans_greatest.f k l) ((gI l : Nat) : Int) := by
  refine Ev.eq (fun k => by unfold tans_greatest.f; rfl) ?_
  have e : slices_Max_int_int.f l = some (maxL l) := by unfold slices_Max_int_int.f; rw [if_pos ⟨h0, hl⟩]
  refine Ev.bind (Ev.fixed e) ?_
  exact Ev.bind (index_l0 l hl h0 (gI l) 0 (by omega)) (Ev.now _)
/-! ### taking off what is too much -/
theorem sum_set : ∀ (l : List Int) (i : Nat) (v : Int), i < l.length → (l.set i v).sum = l.sum - l.getD i 0 + v
  | [], _, _, h => by simp at h
  | x :: t, 0, v, _ => by show v + t.sum = x + t.sum - x + v; omega
  | x :: t, i + 1, v, h => by
    have ih := sum_set t i v (by simp at h; omega)
    show x + (t.set i v).sum = x + t.sum - t.getD i 0 + v
    rw [ih]; omega
theorem mem_set {l : List Int} {i : Nat} {v x : Int} (h : x ∈ l.set i v) : x ∈ l ∨ x = v := List.mem_or_eq_of_mem_set h
def dec (l : List Int) : List Int := l.set (gI l) (l.getD (gI l) 0 - 1)
def lowT : Nat → List Int → List Int
  | 0, l => l
  | d + 1, l => lowT d (dec l)
theorem sum_le_top {l : List Int} (h0 : 0 < l.length) (hs : 0 < l.sum) : 0 < l.getD (gI l) 0 := by
  have hg := gI_is h0
  rcases Int.lt_or_le 0 (l.getD (gI l) 0) with h | h
  · exact h
  · exfalso
    have : ∀ t : List Int, (∀ x ∈ t, x ≤ 0) → t.sum ≤ 0 := by
      intro t
      induction t with
      | nil => intro _; simp
      | cons x t ih => intro hx; have := hx x (by simp); have := ih (fun y hy => hx y (List.mem_cons_of_mem _ hy)); rw [List.sum_cons]; omega
    have h2 := this l (fun x hx => by
      obtain ⟨j, hj, e⟩ := List.getElem_of_mem hx
      have := hg.2.1 j hj
      rw [List.getD_eq_getElem?_getD, List.getElem?_eq_getElem hj, e] at this
      have h5 : (some x).getD 0 = x := rfl
      omega)
    omega
/-- Numbers that norms are made of. -/
structure Nb (l : List Int) : Prop where
  len : 0 < l.length
  l256 : l.length ≤ 256
  bd : ∀ x ∈ l, 0 ≤ x ∧ x ≤ 4096
theorem Nb.sum {l : List Int} (h : Nb l) : 0 ≤ l.sum ∧ l.sum ≤ 1048576 := by
  have : ∀ t : List Int, (∀ x ∈ t, 0 ≤ x ∧ x ≤ 4096) → 0 ≤ t.sum ∧ t.sum ≤ 4096 * t.length := by
    intro t
    induction t with
    | nil => intro _; simp
    | cons x t ih => intro hx; have h1 := hx x (by simp); have h2 := ih (fun y hy => hx y (List.mem_cons_of_mem _ hy)); rw [List.sum_cons, List.length_cons]; omega
  have h2 := this l h.bd
  have h3 := h.l256
  omega
theorem getD_mem {l : List Int} {i : Nat} (h : i < l.length) : l.getD i 0 ∈ l := by
  rw [List.getD_eq_getElem?_getD, List.getElem?_eq_getElem h]; exact List.getElem_mem _
theorem Nb.dec {l : List Int} (h : Nb l) (hs : 0 < l.sum) : Nb (dec l) ∧ (Pure.dec l).sum = l.sum - 1 := by
  have hg := gI_is h.len
  have ht := sum_le_top h.len hs
  have hb := h.bd _ (getD_mem hg.1)
  unfold Pure.dec
  refine ⟨⟨by rw [List.length_set]; exact h.len, by rw [List.length_set]; exact h.l256, fun x hx => ?_⟩, ?_⟩
  · rcases mem_set hx with h1 | h1
    · exact h.bd x h1
    · omega
  · rw [sum_set _ _ _ hg.1]; omega
theorem low_is : ∀ (d : Nat) (l : List Int), Nb l → (d : Int) ≤ l.sum → Nb (lowT d l) ∧ (lowT d l).sum = l.sum - d
  | 0, l, h, _ => ⟨h, by simp [lowT]⟩
  | d + 1, l, h, hd => by
    obtain ⟨h1, h2⟩ := h.dec (by omega)
    obtain ⟨h3, h4⟩ := low_is d (dec l) h1 (by omega)
    rw [lowT]
    exact ⟨h3, by omega⟩
/-- The last turn. -/
def fin (l : List Int) (N : Nat) : List Int := l.set (gI l) (l.getD (gI l) 0 + ((N : Int) - l.sum))
theorem norm_l1 (N : Nat) (hN : N ≤ 4096) : ∀ (d : Nat) (l : List Int), Nb l → (l.sum = (N : Int) + d ∨ (d = 0 ∧ l.sum ≤ N)) → Ev (fun k => tans_Norm.l1 k l ((N : Int) - l.sum)) (fin (lowT d l) N, 0)
  | 0, l, h, hs => by
    have hg := gI_is h.len
    have hb := h.bd _ (getD_mem hg.1)
    have h3 := h.sum
    refine Ev.step (f := fun k => (tans_greatest.f k l).bind fun t118 => (if 0 ≤ t118 then (if t118 < (l.length : Int) then (some ((l.set (t118 : Int).toNat (wrap64 ((rd l t118) + ((N : Int) - l.sum)))), 0)) else (none)) else (none))) (fun k => by simp only [tans_Norm.l1]; rw [if_neg (by omega)]) ?_
    refine Ev.bind (greatest_ev l (by have := h.l256; omega) h.len) (Ev.fixed ?_)
    have := hg.1
    rw [if_pos (by omega), if_pos (by omega), rd_at, w64 (by omega) (by omega), Int.toNat_natCast]
    rfl
  | d + 1, l, h, hs => by
    have hg := gI_is h.len
    have hb := h.bd _ (getD_mem hg.1)
    have h3 := h.sum
    have hs : l.sum = (N : Int) + (d + 1 : Nat) := by omega
    obtain ⟨h1, h2⟩ := h.dec (by omega)
    refine Ev.step (f := fun k => (tans_greatest.f k l).bind fun t115 => (if 0 ≤ t115 then (if t115 < (l.length : Int) then (tans_Norm.l1 k (l.set (t115 : Int).toNat (wrap64 ((rd l t115) - 1))) (wrap64 (((N : Int) - l.sum) + 1))) else (none)) else (none))) (fun k => by simp only [tans_Norm.l1]; rw [if_pos (by omega)]) ?_
    refine Ev.bind (greatest_ev l (by have := h.l256; omega) h.len) ?_
    have := hg.1
    refine Ev.eq (fun k => ?_) (norm_l1 N hN d (dec l) h1 (by left; omega))
    rw [if_pos (by omega), if_pos (by omega), rd_at, w64 (x := l.getD (gI l) 0 - 1) (by omega) (by omega), w64 (by omega) (by omega), Int.toNat_natCast, h2]
    show tans_Norm.l1 k (dec l) _ = _
    congr 1
    omega
theorem rnorm_l1 (N : Nat) (hN : N ≤ 4096) : ∀ (d : Nat) (l : List Int), Nb l → (l.sum = (N : Int) + d ∨ (d = 0 ∧ l.sum ≤ N)) → Ev (fun k => gladstoneref59_Norm.l1 k (N : Int) l) (fin (lowT d l) N, 0)
  | 0, l, h, hs => by
    have hg := gI_is h.len
    have hb := h.bd _ (getD_mem hg.1)
    have h3 := h.sum
    have hsum := rsum_ev l (by have := h.l256; omega) (fun x hx => by have := h.bd x hx; omega)
    refine Ev.step (f := fun k => (gladstoneref59_sum.f k l).bind fun t241 => (if t241 > (N : Int) then ((gladstoneref59_greatest.f k l).bind fun t242 => (if 0 ≤ t242 then (if t242 < (l.length : Int) then (gladstoneref59_Norm.l1 k (N : Int) (l.set (t242 : Int).toNat (wrap64 ((rd l t242) - 1)))) else (none)) else (none))) else ((gladstoneref59_greatest.f k l).bind fun t245 => (if 0 ≤ t245 then (if t245 < (l.length : Int) then ((gladstoneref59_sum.f k l).bind fun t247 => (some ((l.set (t245 : Int).toNat (wrap64 ((wrap64 ((rd l t245) + (N : Int))) - t247))), 0))) else (none)) else (none))))) (fun k => by simp only [gladstoneref59_Norm.l1]) ?_
    refine Ev.bind hsum ?_
    refine Ev.ifn (by omega) ?_
    refine Ev.bind (rgreatest_ev l (by have := h.l256; omega) h.len) ?_
    have := hg.1
    refine Ev.ifp (by omega) (Ev.ifp (by omega) ?_)
    refine Ev.bind hsum (Ev.fixed ?_)
    rw [rd_at, w64 (x := l.getD (gI l) 0 + (N : Int)) (by omega) (by omega), w64 (by omega) (by omega), Int.toNat_natCast]
    show some (l.set (gI l) _, (0 : Int)) = some (l.set (gI l) _, 0)
    rw [show l.getD (gI l) 0 + (N : Int) - l.sum = l.getD (gI l) 0 + ((N : Int) - l.sum) by omega]
    rfl
  | d + 1, l, h, hs => by
    have hg := gI_is h.len
    have hb := h.bd _ (getD_mem hg.1)
    have h3 := h.sum
    have hs : l.sum = (N : Int) + (d + 1 : Nat) := by omega
    obtain ⟨h1, h2⟩ := h.dec (by omega)
    have hsum := rsum_ev l (by have := h.l256; omega) (fun x hx => by have := h.bd x hx; omega)
    refine Ev.step (f := fun k => (gladstoneref59_sum.f k l).bind fun t241 => (if t241 > (N : Int) then ((gladstoneref59_greatest.f k l).bind fun t242 => (if 0 ≤ t242 then (if t242 < (l.length : Int) then (gladstoneref59_Norm.l1 k (N : Int) (l.set (t242 : Int).toNat (wrap64 ((rd l t242) - 1)))) else (none)) else (none))) else ((gladstoneref59_greatest.f k l).bind fun t245 => (if 0 ≤ t245 then (if t245 < (l.length : Int) then ((gladstoneref59_sum.f k l).bind fun t247 => (some ((l.set (t245 : Int).toNat (wrap64 ((wrap64 ((rd l t245) + (N : Int))) - t247))), 0))) else (none)) else (none))))) (fun k => by simp only [gladstoneref59_Norm.l1]) ?_
    refine Ev.bind hsum ?_
    refine Ev.ifp (by omega) ?_
    refine Ev.bind (rgreatest_ev l (by have := h.l256; omega) h.len) ?_
    have := hg.1
    refine Ev.ifp (by omega) (Ev.ifp (by omega) ?_)
    refine Ev.eq (fun k => ?_) (rnorm_l1 N hN d (dec l) h1 (by left; omega))
    rw [rd_at, w64 (by omega) (by omega), Int.toNat_natCast]
    rfl
/-! ### the first norms -/
def nbv (f all : Int) (N : Nat) : Int := if 0 < f then mx 1 (f * N / all) else 0
def bT (l : List Int) (N i : Nat) : List Int := tabn l.length (fun j => if j < i then nbv (l.getD j 0) l.sum N else 0)
theorem nbv_bd {f all : Int} {N : Nat} (h0 : 0 < N) (hN : N ≤ 4096) (h1 : f ≤ all) (h2 : all ≤ 4294967295) : 0 ≤ nbv f all N ∧ nbv f all N ≤ 4096 ∧ (0 < f → mx 1 (wrap64 (Int.tdiv (wrap64 (f * (N : Int))) all)) = nbv f all N ∧ 1 ≤ nbv f all N) := by
  unfold nbv
  by_cases hf : 0 < f
  · rw [if_pos hf]
    have a1 : f * (N : Int) ≤ 4294967295 * 4096 := Int.mul_le_mul (by omega) (by omega) (by omega) (by omega)
    have a2 : 0 ≤ f * (N : Int) := Int.mul_nonneg (by omega) (by omega)
    have a3 : f * (N : Int) / all ≤ N := Int.ediv_le_of_le_mul (by omega) (by rw [Int.mul_comm]; exact Int.mul_le_mul_of_nonneg_left h1 (by omega))
    have a4 : 0 ≤ f * (N : Int) / all := Int.ediv_nonneg a2 (by omega)
    have e1 : wrap64 (f * (N : Int)) = f * (N : Int) := w64 (by omega) (by omega)
    have e2 : Int.tdiv (f * (N : Int)) all = f * (N : Int) / all := Int.tdiv_eq_ediv_of_nonneg a2
    rw [e1, e2, w64 (x := f * (N : Int) / all) (by omega) (by omega)]
    unfold mx
    split <;> exact ⟨by omega, by omega, fun _ => ⟨rfl, by omega⟩⟩
  · rw [if_neg hf]
    exact ⟨by omega, by omega, fun h => absurd h hf⟩
section
variable {l : List Int} {N : Nat} (h0 : 0 < N) (hN : N ≤ 4096) (hp : ∀ x ∈ l, 0 ≤ x) (hs : l.sum ≤ 4294967295) (hl : l.length ≤ 256) (hl0 : 0 < l.length)
include h0 hN hp hs
theorem bT_bd {j : Nat} (hj : j < l.length) : 0 ≤ nbv (l.getD j 0) l.sum N ∧ nbv (l.getD j 0) l.sum N ≤ 4096 ∧ (0 < l.getD j 0 → mx 1 (wrap64 (Int.tdiv (wrap64 (l.getD j 0 * (N : Int))) l.sum)) = nbv (l.getD j 0) l.sum N ∧ 1 ≤ nbv (l.getD j 0) l.sum N) := nbv_bd h0 hN (mem_le_sum l hp _ (getD_mem hj)) hs
include hl hl0
theorem bT_nb (i : Nat) : Nb (bT l N i) := by
  refine ⟨by unfold bT; rw [tabn_length]; exact hl0, by unfold bT; rw [tabn_length]; exact hl, fun x hx => ?_⟩
  obtain ⟨j, hj, rfl⟩ := List.mem_map.1 hx
  have hj := List.mem_range.1 hj
  have := bT_bd h0 hN hp hs hj
  split <;> omega
omit h0 hN hp hs hl hl0
theorem bT_succ {i : Nat} (hi : i < l.length) : bT l N (i + 1) = (bT l N i).set i (nbv (l.getD i 0) l.sum N) := by
  unfold bT
  rw [tabn_set]
  refine tabn_congr (fun j hj => ?_)
  by_cases e : j = i
  · subst e; rw [if_pos rfl, if_pos (by omega)]
  · rw [if_neg e]
    by_cases h : j < i
    · rw [if_pos h, if_pos (by omega)]
    · rw [if_neg h, if_neg (by omega)]
theorem bT_zero {i : Nat} (hi : i < l.length) (h : ¬ 0 < l.getD i 0) : bT l N (i + 1) = bT l N i := by
  rw [bT_succ hi]
  unfold bT
  rw [tabn_set]
  refine tabn_congr (fun j hj => ?_)
  by_cases e : j = i
  · subst e; rw [if_pos rfl, if_neg (by omega)]; unfold nbv; rw [if_neg h]
  · rw [if_neg e]
theorem bT_at {i : Nat} (hi : i < l.length) : (bT l N i).getD i 0 = 0 := by
  unfold bT
  rw [tabn_getD hi, if_neg (by omega)]
theorem bT_sum {i : Nat} (hi : i < l.length) : (bT l N (i + 1)).sum = (bT l N i).sum + nbv (l.getD i 0) l.sum N := by
  rw [bT_succ hi, sum_set _ _ _ (by unfold bT; rw [tabn_length]; exact hi), bT_at hi]; omega
/-- The norms. -/
def normT (l : List Int) (N : Nat) : List Int := fin (lowT ((bT l N l.length).sum - N).toNat (bT l N l.length)) N
include h0 hN hp hs hl hl0
theorem norm_l0 (d : Nat) : ∀ i, i + d = l.length → Ev (fun k => tans_Norm.l0 k (N : Int) l.sum (bT l N i) ((N : Int) - (bT l N i).sum) l (l.length : Int) (i : Int)) (normT l N, 0) := by
  induction d with
  | zero =>
    intro i hi
    obtain rfl : i = l.length := by omega
    have hnb := bT_nb h0 hN hp hs hl hl0 l.length
    have h := norm_l1 N hN ((bT l N l.length).sum - N).toNat (bT l N l.length) hnb (by omega)
    exact Ev.step (fun k => by simp only [tans_Norm.l0]; rw [if_neg (by omega)]) h
  | succ d ih =>
    intro i hi
    have hil : i < l.length := by omega
    have hb := bT_bd h0 hN hp hs hil
    have hnb := (bT_nb h0 hN hp hs hl hl0 i).sum
    by_cases hf : 0 < l.getD i 0
    · refine Ev.step (f := fun k => tans_Norm.l0 k (N : Int) l.sum (bT l N (i + 1)) ((N : Int) - (bT l N (i + 1)).sum) l (l.length : Int) ((i + 1 : Nat) : Int)) (fun k => ?_) (ih (i + 1) (by omega))
      have hall : l.sum ≠ 0 := by have := mem_le_sum l hp _ (getD_mem hil); omega
      simp only [tans_Norm.l0]
      rw [if_pos (by omega), if_pos (by omega), if_pos (by omega), rd_at, if_pos hf, if_neg hall, if_pos (by rw [show (bT l N i).length = l.length from tabn_length _ _]; omega), Int.toNat_natCast, (hb.2.2 hf).1, ← bT_succ hil]
      show tans_Norm.l0 k (N : Int) l.sum (bT l N (i + 1)) (wrap64 (((N : Int) - (bT l N i).sum) - rd (bT l N (i + 1)) (i : Int))) l (l.length : Int) (wrap64 ((i : Int) + 1)) = _
      have e : rd (bT l N (i + 1)) (i : Int) = nbv (l.getD i 0) l.sum N := by
        rw [rd_at]
        unfold bT
        rw [tabn_getD hil, if_pos (by omega)]
      rw [e, bT_sum hil, w64 (by omega) (by omega), w64 (by omega) (by omega), show (N : Int) - (bT l N i).sum - nbv (l.getD i 0) l.sum N = (N : Int) - ((bT l N i).sum + nbv (l.getD i 0) l.sum N) by omega]
      rfl
    · refine Ev.step (f := fun k => tans_Norm.l0 k (N : Int) l.sum (bT l N (i + 1)) ((N : Int) - (bT l N (i + 1)).sum) l (l.length : Int) ((i + 1 : Nat) : Int)) (fun k => ?_) (ih (i + 1) (by omega))
      simp only [tans_Norm.l0]
      rw [if_pos (by omega), if_pos (by omega), if_pos (by omega), rd_at, if_neg hf, bT_zero hil hf, w64 (by omega) (by omega)]
      rfl
theorem rnorm_l0 (d : Nat) : ∀ i, i + d = l.length → Ev (fun k => gladstoneref59_Norm.l0 k l l.sum (N : Int) (bT l N i) (i : Int)) (normT l N, 0) := by
  induction d with
  | zero =>
    intro i hi
    obtain rfl : i = l.length := by omega
    have hnb := bT_nb h0 hN hp hs hl hl0 l.length
    have h := rnorm_l1 N hN ((bT l N l.length).sum - N).toNat (bT l N l.length) hnb (by omega)
    exact Ev.step (fun k => by simp only [gladstoneref59_Norm.l0]; rw [if_neg (by omega)]) h
  | succ d ih =>
    intro i hi
    have hil : i < l.length := by omega
    have hb := bT_bd h0 hN hp hs hil
    by_cases hf : 0 < l.getD i 0
    · refine Ev.step (f := fun k => gladstoneref59_Norm.l0 k l l.sum (N : Int) (bT l N (i + 1)) ((i + 1 : Nat) : Int)) (fun k => ?_) (ih (i + 1) (by omega))
      have hall : l.sum ≠ 0 := by have := mem_le_sum l hp _ (getD_mem hil); omega
      simp only [gladstoneref59_Norm.l0]
      rw [if_pos (by omega), if_pos (by omega), rd_at, if_pos hf, if_neg hall, if_pos (by rw [show (bT l N i).length = l.length from tabn_length _ _]; omega), Int.toNat_natCast, (hb.2.2 hf).1, ← bT_succ hil, w64 (by omega) (by omega)]
      rfl
    · refine Ev.step (f := fun k => gladstoneref59_Norm.l0 k l l.sum (N : Int) (bT l N (i + 1)) ((i + 1 : Nat) : Int)) (fun k => ?_) (ih (i + 1) (by omega))
      simp only [gladstoneref59_Norm.l0]
      rw [if_pos (by omega), if_pos (by omega), rd_at, if_neg hf, bT_zero hil hf, w64 (by omega) (by omega)]
      rfl
/-- What norms are. -/
theorem normT_ok : (normT l N).length = l.length ∧ (∀ x ∈ normT l N, 0 ≤ x) ∧ (normT l N).sum = N := by
  have hnb := bT_nb h0 hN hp hs hl hl0 l.length
  have hsm := hnb.sum
  obtain ⟨h1, h2⟩ := low_is ((bT l N l.length).sum - N).toNat _ hnb (by omega)
  have hg := gI_is h1.len
  have hlen : ∀ (d : Nat) (m : List Int), (lowT d m).length = m.length := by
    intro d
    induction d with
    | zero => intro m; rfl
    | succ d ih => intro m; rw [lowT, ih]; unfold Pure.dec; rw [List.length_set]
  unfold normT fin
  refine ⟨by rw [List.length_set, hlen]; exact tabn_length _ _, fun x hx => ?_, ?_⟩
  · rcases mem_set hx with h | h
    · exact (h1.bd x h).1
    · have := (h1.bd _ (getD_mem hg.1)).1
      omega
  · rw [sum_set _ _ _ hg.1]; omega
end
/-! ### the whole -/
def usedC (l : List Int) : Nat := l.countP (fun x => decide (0 < x))
theorem used_ev (l : List Int) (hl : l.length ≤ 1073741824) : Ev (fun k => tans_used.f k l) ((usedC l : Nat) : Int) := by
  have h := Ev.along l (fun k s i => tans_used.l0 k s l (l.length : Int) i) (fun s t => s + ((usedC t : Nat) : Int)) (fun i s => 0 ≤ s ∧ s ≤ i) ?_ ?_ 0 0 (Nat.zero_le _) (by omega)
  · rw [Int.zero_add] at h
    exact h
  · intro s _
    refine Ev.step (f := fun _ => some s) (fun k => ?_) (Ev.some (by simp [usedC]))
    simp only [tans_used.l0]
    rw [if_neg (by omega)]
  · intro i s a t hs hd ha hlt ih
    have e : s + ((usedC (a :: t) : Nat) : Int) = (if 0 < a then s + 1 else s) + ((usedC t : Nat) : Int) := by
      unfold usedC
      rw [List.countP_cons]
      by_cases h : 0 < a <;> simp [h] <;> omega
    rw [e]
    refine Ev.step (f := fun k => tans_used.l0 k (if 0 < a then s + 1 else s) l (l.length : Int) ((i + 1 : Nat) : Int)) (fun k => ?_) (ih _ (by split <;> omega))
    simp only [tans_used.l0]
    rw [if_pos (by omega), if_pos (by omega), if_pos (by omega), rd_some ha, w64 (x := (i : Int) + 1) (by omega) (by omega), w64 (x := s + 1) (by omega) (by omega)]
    by_cases h : 0 < a <;> simp [h]
def chkN (l : List Int) (n : Int) : Int := if n < 5 ∨ 12 < n then 1 else if 256 < l.length then 5 else if ¬ ((∀ x ∈ l, 0 ≤ x) ∧ l.sum ≤ 4294967295) then 2 else if l.sum = 0 then 7 else if (2 : Int) ^ n.toNat < ((usedC l : Nat) : Int) then 6 else 0
def refN (l : List Int) (n : Int) : List Int × Int := if chkN l n = 0 then (normT l (2 ^ n.toNat), 0) else ([], chkN l n)
theorem chkN_ok {l : List Int} {n : Int} (h : chkN l n = 0) : (5 ≤ n ∧ n ≤ 12) ∧ l.length ≤ 256 ∧ (∀ x ∈ l, 0 ≤ x) ∧ l.sum ≤ 4294967295 ∧ l.sum ≠ 0 ∧ 0 < l.length := by
  unfold chkN at h
  by_cases h1 : n < 5 ∨ 12 < n
  · rw [if_pos h1] at h; cases h
  rw [if_neg h1] at h
  by_cases h2 : 256 < l.length
  · rw [if_pos h2] at h; cases h
  rw [if_neg h2] at h
  by_cases h3 : (∀ x ∈ l, 0 ≤ x) ∧ l.sum ≤ 4294967295
  case neg => rw [if_pos h3] at h; cases h
  rw [if_neg (not_not_intro h3)] at h
  by_cases h4 : l.sum = 0
  · rw [if_pos h4] at h; cases h
  refine ⟨by omega, by omega, h3.1, h3.2, h4, ?_⟩
  cases l with
  | nil => exact absurd rfl h4
  | cons x t => simp
theorem norm_ev (l : List Int) (hl : l.length ≤ 1073741824) (n : Int) : Ev (fun k => tans_Norm.f k l n) (refN l n) := by
  have e : ∀ k, tans_Norm.f k l n = tans_Norm.j0 k l n (decide (n < 5 ∨ 12 < n)) := by
    intro k
    unfold tans_Norm.f
    by_cases h : n < 5
    · rw [if_pos h, decide_eq_true (show n < 5 ∨ 12 < n from .inl h)]
    · rw [if_neg h]
      congr 1
      exact decide_eq_decide.2 ⟨fun h => .inr h, fun h' => by omega⟩
  refine Ev.eq e ?_
  unfold refN
  by_cases h : n < 5 ∨ 12 < n
  · have hc : chkN l n = 1 := by unfold chkN; rw [if_pos h]
    rw [decide_eq_true h, hc, if_neg (by decide)]
    exact Ev.step (f := fun _ => some ([], 1)) (fun k => by simp only [tans_Norm.j0]; rw [if_pos (by simp)]) (Ev.now _)
  rw [decide_eq_false h]
  obtain ⟨nn, rfl⟩ : ∃ nn : Nat, n = (nn : Int) := ⟨n.toNat, by omega⟩
  have h2 := two_le h
  have eN : ((2 : Int) ^ nn) = ((2 ^ nn : Nat) : Int) := by simp
  rw [Int.toNat_natCast, eN] at h2
  rw [Int.toNat_natCast]
  have eS : shl .i64 1 (nn : Int) = ((2 ^ nn : Nat) : Int) := by rw [shl64 (by omega) (by omega), Int.toNat_natCast, eN]
  by_cases h256 : 256 < l.length
  · have hc : chkN l nn = 5 := by unfold chkN; rw [if_neg h, if_pos h256]
    rw [hc, if_neg (by decide)]
    exact Ev.step (f := fun _ => some ([], 5)) (fun k => by simp only [tans_Norm.j0]; rw [if_neg (by decide), if_pos (by omega)]) (Ev.now _)
  refine Ev.step (f := fun k => (tans_sum.f k l).bind fun bt106 => (if bt106.2 = true then (if bt106.1 = 0 then (some (([] : List Int), 7)) else ((tans_used.f k l).bind fun t108 => (if t108 > (shl .i64 1 (nn : Int)) then (some (([] : List Int), 6)) else (if 0 ≤ (l.length : Int) then (if ((l.length : Int) : Int).toNat ≤ 35184372088832 then (tans_Norm.l0 k (shl .i64 1 (nn : Int)) bt106.1 (List.replicate ((l.length : Int) : Int).toNat 0) (shl .i64 1 (nn : Int)) l (l.length : Int) 0) else (none)) else (none))))) else (some (([] : List Int), 2)))) (fun k => by simp only [tans_Norm.j0]; rw [if_neg (by decide), if_neg (by omega), if_pos (by omega)]) ?_
  refine Ev.bind (sum_ev l hl) ?_
  rw [sumS_eq l 0 (by omega) (by omega), Int.zero_add]
  by_cases hp : (∀ x ∈ l, 0 ≤ x) ∧ l.sum ≤ 4294967295
  case neg =>
    have hc : chkN l nn = 2 := by unfold chkN; rw [if_neg h, if_neg h256, if_pos hp]
    rw [hc, if_neg hp, if_neg (show ¬ ((2 : Int) = 0) by decide)]
    exact Ev.ifn (by decide) (Ev.now _)
  rw [if_pos hp]
  refine Ev.ifp rfl ?_
  by_cases hz : l.sum = 0
  · have hc : chkN l nn = 7 := by unfold chkN; rw [if_neg h, if_neg h256, if_neg (not_not_intro hp), if_pos hz]
    rw [hc, if_neg (by decide)]
    exact Ev.ifp hz (Ev.now _)
  refine Ev.ifn hz (Ev.bind (used_ev l hl) ?_)
  rw [eS]
  by_cases hu : ((2 ^ nn : Nat) : Int) < ((usedC l : Nat) : Int)
  · have hc : chkN l nn = 6 := by unfold chkN; rw [if_neg h, if_neg h256, if_neg (not_not_intro hp), if_neg hz, if_pos (by rw [Int.toNat_natCast, eN]; exact hu)]
    rw [hc, if_neg (by decide)]
    exact Ev.ifp hu (Ev.now _)
  have hc : chkN l nn = 0 := by unfold chkN; rw [if_neg h, if_neg h256, if_neg (not_not_intro hp), if_neg hz, if_neg (by rw [Int.toNat_natCast, eN]; exact hu)]
  rw [hc, if_pos rfl]
  have hl0 := (chkN_ok hc).2.2.2.2.2
  refine Ev.ifn hu (Ev.ifp (by omega) (Ev.ifp (by omega) ?_))
  have hr := norm_l0 (l := l) (N := 2 ^ nn) (by omega) (by omega) hp.1 hp.2 (by omega) hl0 l.length 0 (by omega)
  have e0 : bT l (2 ^ nn) 0 = List.replicate l.length 0 := by
    rw [tabn_zero]
    exact tabn_congr (fun j _ => if_neg (by omega))
  have e1 : (List.replicate l.length (0 : Int)).sum = 0 := by simp
  rw [e0, e1, Int.sub_zero] at hr
  exact hr
/-- The reference's check: the errors, and all together. -/
def finC (N : Nat) (s : Int) (u : Int) : Int × Int := if s = 0 then (0, 7) else if (N : Int) < u then (0, 6) else (s, 0)
theorem rcheck_l0 (l : List Int) (hl : l.length ≤ 256) (nn : Nat) (hn : ¬ ((nn : Int) < 5 ∨ 12 < (nn : Int))) : Ev (fun k => gladstoneref59_check.l0 k l (nn : Int) 0 0 0) (if (sumS 0 l).2 = true then finC (2 ^ nn) (sumS 0 l).1 ((usedC l : Nat) : Int) else (0, 2)) := by
  have eN : ((2 : Int) ^ nn) = ((2 ^ nn : Nat) : Int) := by simp
  have h := Ev.along l (fun k (s : Int × Int) i => gladstoneref59_check.l0 k l (nn : Int) s.1 s.2 i) (fun s t => if (sumS s.1 t).2 = true then finC (2 ^ nn) (sumS s.1 t).1 (s.2 + ((usedC t : Nat) : Int)) else (0, 2)) (fun i s => (0 ≤ s.1 ∧ s.1 ≤ 4294967295) ∧ 0 ≤ s.2 ∧ s.2 ≤ i) ?_ ?_ 0 (0, 0) (Nat.zero_le _) ⟨by simp, by simp⟩
  · simp only [Int.zero_add, List.drop_zero] at h
    exact h
  · rintro ⟨s, u⟩ hs
    dsimp only at hs ⊢
    refine Ev.step (f := fun _ => some (finC (2 ^ nn) s u)) (fun k => ?_) (Ev.some ?_)
    · simp only [gladstoneref59_check.l0]
      unfold finC
      rw [if_neg (by omega), u64_nat hn, shl64 (by omega) (by omega), Int.toNat_natCast, eN]
      by_cases h0 : s = 0
      · rw [if_pos h0, if_pos h0]
      · rw [if_neg h0, if_neg h0, if_pos (by omega)]
        by_cases h1 : ((2 ^ nn : Nat) : Int) < u
        · rw [if_pos h1, if_pos h1]
        · rw [if_neg h1, if_neg h1]
    · simp [sumS, usedC]
  · rintro i ⟨s, u⟩ a t hs hd ha hlt ih
    dsimp only at hs ih ⊢
    have e1 : wrap64 (4294967295 - s) = 4294967295 - s := w64 (by omega) (by omega)
    by_cases hb : a < 0 ∨ 4294967295 - s < a
    · have e2 : sumS s (a :: t) = (0, false) := by rw [sumS, if_pos hb]
      rw [e2, if_neg (by decide)]
      refine Ev.step (f := fun k => gladstoneref59_check.j2 k l (nn : Int) s u (i : Int) true) (fun k => ?_) (Ev.step (f := fun _ => some (0, 2)) (fun k => by simp only [gladstoneref59_check.j2]; rw [if_pos (by simp)]) (Ev.now _))
      simp only [gladstoneref59_check.l0]
      rw [if_pos (by omega), if_pos (by omega), rd_some ha, e1]
      by_cases h0 : a < 0
      · rw [if_pos h0]
      · rw [if_neg h0, decide_eq_true (show a > 4294967295 - s by omega)]
    · have e2 : sumS s (a :: t) = sumS (s + a) t := by rw [sumS, if_neg hb]
      have e : u + ((usedC (a :: t) : Nat) : Int) = (if 0 < a then u + 1 else u) + ((usedC t : Nat) : Int) := by
        unfold usedC
        rw [List.countP_cons]
        by_cases h : 0 < a <;> simp [h] <;> omega
      rw [e2, e]
      refine Ev.step (f := fun k => gladstoneref59_check.j2 k l (nn : Int) s u (i : Int) false) (fun k => ?_) (Ev.step (f := fun k => gladstoneref59_check.l0 k l (nn : Int) (s + a) (if 0 < a then u + 1 else u) ((i + 1 : Nat) : Int)) (fun k => ?_) (ih (s + a, if 0 < a then u + 1 else u) ⟨by dsimp only; omega, by dsimp only; split <;> omega⟩))
      · simp only [gladstoneref59_check.l0]
        rw [if_pos (by omega), if_pos (by omega), rd_some ha, e1, if_neg (by omega), decide_eq_false (show ¬ a > 4294967295 - s by omega)]
      · simp only [gladstoneref59_check.j2]
        rw [if_neg (by decide), if_pos (by omega), if_pos (by omega), rd_some ha, w64 (x := (i : Int) + 1) (by omega) (by omega), w64 (x := s + a) (by omega) (by omega), w64 (x := u + 1) (by omega) (by omega)]
        by_cases h : 0 < a <;> simp [h]
theorem rnorm_ev (l : List Int) (hl : l.length ≤ 1073741824) (n : Int) : Ev (fun k => gladstoneref59_Norm.f k l n) (refN l n) := by
  refine Ev.eq (fun k => by unfold gladstoneref59_Norm.f; rfl) ?_
  have e : ∀ k, gladstoneref59_check.f k l n = gladstoneref59_check.j0 k l n (decide (n < 5 ∨ 12 < n)) := by
    intro k
    unfold gladstoneref59_check.f
    by_cases h : n < 5
    · rw [if_pos h, decide_eq_true (show n < 5 ∨ 12 < n from .inl h)]
    · rw [if_neg h]
      congr 1
      exact decide_eq_decide.2 ⟨fun h => .inr h, fun h' => by omega⟩
  unfold refN
  by_cases h : n < 5 ∨ 12 < n
  · have hc : chkN l n = 1 := by unfold chkN; rw [if_pos h]
    rw [hc, if_neg (by decide)]
    have h1 : Ev (fun k => gladstoneref59_check.f k l n) (0, 1) := by
      refine Ev.eq e ?_
      rw [decide_eq_true h]
      exact Ev.step (f := fun _ => some (0, 1)) (fun k => by simp only [gladstoneref59_check.j0]; rw [if_pos (by simp)]) (Ev.now _)
    exact Ev.bind h1 (Ev.ifn (by decide) (Ev.now _))
  obtain ⟨nn, rfl⟩ : ∃ nn : Nat, n = (nn : Int) := ⟨n.toNat, by omega⟩
  have h2 := two_le h
  have eN : ((2 : Int) ^ nn) = ((2 ^ nn : Nat) : Int) := by simp
  rw [Int.toNat_natCast, eN] at h2
  rw [Int.toNat_natCast]
  have eS : shl .i64 1 (IntKind.u64.wrap (nn : Int)) = ((2 ^ nn : Nat) : Int) := by rw [u64_nat h, shl64 (by omega) (by omega), Int.toNat_natCast, eN]
  by_cases h256 : 256 < l.length
  · have hc : chkN l nn = 5 := by unfold chkN; rw [if_neg h, if_pos h256]
    rw [hc, if_neg (by decide)]
    have h1 : Ev (fun k => gladstoneref59_check.f k l (nn : Int)) (0, 5) := by
      refine Ev.eq e ?_
      rw [decide_eq_false h]
      exact Ev.step (f := fun _ => some (0, 5)) (fun k => by simp only [gladstoneref59_check.j0]; rw [if_neg (by decide), if_pos (by omega)]) (Ev.now _)
    exact Ev.bind h1 (Ev.ifn (by decide) (Ev.now _))
  have h1 : Ev (fun k => gladstoneref59_check.f k l (nn : Int)) (if (sumS 0 l).2 = true then finC (2 ^ nn) (sumS 0 l).1 ((usedC l : Nat) : Int) else (0, 2)) := by
    refine Ev.eq e ?_
    rw [decide_eq_false h]
    exact Ev.step (fun k => by simp only [gladstoneref59_check.j0]; rw [if_neg (by decide), if_neg (by omega)]) (rcheck_l0 l (by omega) nn h)
  rw [sumS_eq l 0 (by omega) (by omega), Int.zero_add] at h1
  by_cases hp : (∀ x ∈ l, 0 ≤ x) ∧ l.sum ≤ 4294967295
  case neg =>
    have hc : chkN l nn = 2 := by unfold chkN; rw [if_neg h, if_neg h256, if_pos hp]
    rw [if_neg hp, if_neg (show ¬ ((0 : Int), false).2 = true by decide)] at h1
    rw [hc, if_neg (by decide)]
    exact Ev.bind h1 (Ev.ifn (by decide) (Ev.now _))
  rw [if_pos hp, if_pos (show (l.sum, true).2 = true from rfl)] at h1
  unfold finC at h1
  dsimp only at h1
  by_cases hz : l.sum = 0
  · have hc : chkN l nn = 7 := by unfold chkN; rw [if_neg h, if_neg h256, if_neg (not_not_intro hp), if_pos hz]
    rw [if_pos hz] at h1
    rw [hc, if_neg (by decide)]
    exact Ev.bind h1 (Ev.ifn (by decide) (Ev.now _))
  rw [if_neg hz] at h1
  by_cases hu : ((2 ^ nn : Nat) : Int) < ((usedC l : Nat) : Int)
  · have hc : chkN l nn = 6 := by unfold chkN; rw [if_neg h, if_neg h256, if_neg (not_not_intro hp), if_neg hz, if_pos (by rw [Int.toNat_natCast, eN]; exact hu)]
    rw [if_pos hu] at h1
    rw [hc, if_neg (by decide)]
    exact Ev.bind h1 (Ev.ifn (by decide) (Ev.now _))
  have hc : chkN l nn = 0 := by unfold chkN; rw [if_neg h, if_neg h256, if_neg (not_not_intro hp), if_neg hz, if_neg (by rw [Int.toNat_natCast, eN]; exact hu)]
  rw [if_neg hu] at h1
  rw [hc, if_pos rfl]
  have hl0 := (chkN_ok hc).2.2.2.2.2
  refine Ev.bind h1 (Ev.ifp rfl (Ev.ifp (by rw [u64_nat h]; omega) (Ev.ifp (by omega) (Ev.ifp (by omega) ?_))))
  have hr := rnorm_l0 (l := l) (N := 2 ^ nn) (by omega) (by omega) hp.1 hp.2 (by omega) hl0 l.length 0 (by omega)
  have e0 : bT l (2 ^ nn) 0 = List.replicate l.length 0 := by
    rw [tabn_zero]
    exact tabn_congr (fun j _ => if_neg (by omega))
  rw [e0] at hr
  rw [eS]
  exact hr
end Go.Proofs.Ytoondlhlcmjniaa.Pure
