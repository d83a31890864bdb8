/- Codes of lengths, along their order; the document's Order. -/
import Derived.Test.YtbeoacjooaioaaaKrB
import Derived.Test.YtbeoacjooaioaaaHCn2
set_option linter.unusedVariables false
set_option linter.unusedSimpArgs false
set_option linter.unusedSectionVars false
namespace Go.Proofs.Ytbeoacjooaioaaa.Cn
open Go.RowKit Go.Proofs.YtbeoacjooaioaaaW.PrintWords Go.Proofs.YtbeoacjooaioaaaW.PrintMore Go.Proofs.Ytbeoacjooaioaaa.P Go.Proofs.Ytbeoacjooaioaaa.Com Go.Proofs.Ytbeoacjooaioaaa.Hd
attribute [local irreducible] ord pos code
theorem S_flat (c : Nat → Nat) {a b : Nat} (h : a ≤ b) (e : S c b = S c a) : F c b = F c a * 2 ^ (b - a) := by
  induction b with
  | zero => rw [show a = 0 by omega]; simp
  | succ b ih =>
    by_cases hb : a = b + 1
    · rw [hb]; simp
    · have h1 := S_mono c (show a ≤ b by omega)
      simp only [S] at e
      have e0 : c b = 0 := by omega
      have h2 := ih (by omega) (by omega)
      have e2 : b + 1 - a = (b - a) + 1 := by omega
      simp only [F]
      rw [e0, Nat.zero_add, h2, e2, Nat.pow_succ, Nat.mul_assoc]
theorem ln_pos {l : List Int} {i : Nat} (h : 0 < l.getD i 0) : ln l i ≠ 0 := by unfold ln; omega
theorem ln_cast {l : List Int} {i : Nat} (h : 0 < l.getD i 0) : l.getD i 0 = (ln l i : Int) := by unfold ln; omega
theorem rank_lt {l : List Int} {i : Nat} (hi : i < l.length) (h0 : 0 < l.getD i 0) : rank l i < cn l (ln l i) := by
  have h : l[i]? = some (l.getD i 0) := by rw [List.getD_eq_getElem?_getD, List.getElem?_eq_getElem hi]; rfl
  exact cn_take_lt h (ln_pos h0) (ln_cast h0)
theorem code_pos {l : List Int} {i : Nat} (h : 0 < l.getD i 0) : code l i = F (cn l) (ln l i) + rank l i := by unfold code; exact if_neg (ln_pos h)
theorem code_first {l : List Int} (hl : ∀ x ∈ l, 0 ≤ x ∧ x ≤ 16) (hp : 0 < (ord l).length) : code l (od l 0) = 0 := by
  obtain ⟨h1, h2, _⟩ := od_mem hp
  have h3 := pos_od hl hp
  unfold pos at h3
  have h4 := S_flat (cn l) (Nat.zero_le (ln l (od l 0))) (by simp only [S]; omega)
  rw [code_pos h2, h4]
  simp only [F]
  omega
theorem code_next {l : List Int} (hl : ∀ x ∈ l, 0 ≤ x ∧ x ≤ 16) {p : Nat} (hp : p + 1 < (ord l).length) :
    ln l (od l p) ≤ ln l (od l (p + 1)) ∧ code l (od l (p + 1)) = (code l (od l p) + 1) * 2 ^ (ln l (od l (p + 1)) - ln l (od l p)) := by
  obtain ⟨a1, a2, _⟩ := od_mem (show p < (ord l).length by omega)
  obtain ⟨b1, b2, _⟩ := od_mem hp
  have a3 := pos_od hl (show p < (ord l).length by omega)
  have b3 := pos_od hl hp
  have a4 := rank_lt a1 a2
  have b4 := rank_lt b1 b2
  rw [code_pos a2, code_pos b2]
  unfold pos at a3 b3
  generalize ln l (od l p) = x at *
  generalize ln l (od l (p + 1)) = x' at *
  generalize rank l (od l p) = r at *
  generalize rank l (od l (p + 1)) = r' at *
  have hle : x ≤ x' := by
    by_cases h : x ≤ x'
    · exact h
    · have h1 := S_mono (cn l) (show x' + 1 ≤ x by omega)
      simp only [S] at h1
      omega
  refine ⟨hle, ?_⟩
  by_cases e : x = x'
  · subst e
    rw [Nat.sub_self, Nat.pow_zero, Nat.mul_one]
    omega
  · have h1 := S_mono (cn l) (show x + 1 ≤ x' by omega)
    simp only [S] at h1
    have h2 := S_flat (cn l) (show x + 1 ≤ x' by omega) (by simp only [S]; omega)
    rw [h2]
    simp only [F]
    have e2 : x' - x = (x' - (x + 1)) + 1 := by omega
    have e3 : cn l x = r + 1 := by omega
    have e4 : r' = 0 := by omega
    rw [e2, e3, e4, Nat.pow_succ, Nat.add_zero, Nat.mul_comm (2 ^ (x' - (x + 1))) 2, ← Nat.mul_assoc]
    congr 2
    omega
theorem code_le {l : List Int} (h : l.length ≤ 1024) (h16 : ∀ x ∈ l, 0 ≤ x ∧ x ≤ 16) (i : Nat) : code l i ≤ 268436480 := by
  unfold code
  split
  · omega
  · have hn : ln l i ≤ 16 := by
      unfold ln
      by_cases hi : i < l.length
      · have := h16 _ (List.getElem_mem hi)
        rw [List.getD_eq_getElem?_getD, List.getElem?_eq_getElem hi]
        show (l[i]).toNat ≤ 16
        omega
      · rw [List.getD_eq_getElem?_getD, List.getElem?_eq_none (by omega)]; decide
    have h1 := F_le16 (cn l) (fun j => Nat.le_trans (cn_le l j) h) (ln l i) (by omega)
    have h2 := cn_take_le l i (ln l i)
    have h3 := cn_le l (ln l i)
    unfold rank
    omega
/-- The codes of the first so many in order. -/
def RC (l : List Int) (i : Nat) : List Int := tabn l.length (fun s => if 0 < l.getD s 0 ∧ pos l s < i then (code l s : Int) else 0)
theorem RC_start (l : List Int) : List.replicate l.length (0 : Int) = RC l 0 := by
  rw [tabn_zero]
  exact tabn_congr (fun j hj => by rw [if_neg (by omega)])
theorem RC_end {l : List Int} (hl : ∀ x ∈ l, 0 ≤ x ∧ x ≤ 16) : RC l (ord l).length = codesL l := by
  refine tabn_congr (fun j hj => ?_)
  by_cases h : 0 < l.getD j 0
  · rw [if_pos ⟨h, (od_pos hl hj h).1⟩]
  · rw [if_neg (fun h' => h h'.1)]
    unfold code
    rw [if_pos (by unfold ln; omega)]; rfl
theorem RC_step {l : List Int} (hl : ∀ x ∈ l, 0 ≤ x ∧ x ≤ 16) {i : Nat} (hi : i < (ord l).length) : (RC l i).set (od l i) (code l (od l i) : Int) = RC l (i + 1) := by
  obtain ⟨h1, h2, _⟩ := od_mem hi
  have h3 := pos_od hl hi
  unfold RC
  rw [tabn_set]
  refine tabn_congr (fun j hj => ?_)
  by_cases e : j = od l i
  · subst e
    rw [if_pos rfl, if_pos ⟨h2, by omega⟩]
  · rw [if_neg e]
    by_cases h : 0 < l.getD j 0
    · have hne : pos l j ≠ i := fun e2 => e (by rw [← e2]; exact (od_pos hl hj h).2.symm)
      by_cases hlt : pos l j < i
      · rw [if_pos ⟨h, hlt⟩, if_pos ⟨h, by omega⟩]
      · rw [if_neg (by omega), if_neg (by omega)]
    · rw [if_neg (fun h' => h h'.1), if_neg (fun h' => h h'.1)]
/-- The order, as whole numbers. -/
def OL (l : List Int) : List Int := (ord l).map (fun n : Nat => (n : Int))
theorem OL_length (l : List Int) : (OL l).length = (ord l).length := by simp [OL]
theorem OL_get {l : List Int} {i : Nat} (hi : i < (ord l).length) : (OL l)[i]? = some (od l i : Int) := by
  unfold OL od
  rw [List.getElem?_map, List.getElem?_eq_getElem hi, List.getD_eq_getElem?_getD, List.getElem?_eq_getElem hi]; rfl
theorem OL_rd {l : List Int} {I : Int} {i : Nat} (e : I = i) (hi : i < (ord l).length) : rd (OL l) I = (od l i : Int) := by
  subst e
  unfold rd
  rw [Int.toNat_natCast, List.getD_eq_getElem?_getD, OL_get hi]; rfl

/-! ### the document's Order -/
theorem rcheck_ok {k : Nat} {l : List Int} (h : gladstoneref06_Check.f k l 16 = some 0) : l.length ≤ 1024 ∧ ∀ x ∈ l, 0 ≤ x ∧ x ≤ 16 := by
  have hlen : l.length ≤ 1024 := by
    by_cases hn : l.length ≤ 1024
    · exact hn
    · unfold gladstoneref06_Check.f at h
      rw [if_neg (by decide)] at h
      cases k with
      | zero => simp [gladstoneref06_Check.j0] at h
      | succ k =>
        simp only [gladstoneref06_Check.j0] at h
        rw [if_neg (by decide), if_pos (by omega)] at h
        exact absurd h (by decide)
  refine ⟨hlen, fun x hx => ?_⟩
  have e := ev_one (Ev.of (fun k => gladstoneref06_Check.mono l 16 k) h) (Pure.rchk_ev l (by omega) 16)
  unfold Pure.chk at e
  rw [if_neg (by decide), if_neg (by omega)] at e
  by_cases ha : l.all (fun x => decide (0 ≤ x ∧ x ≤ 16)) = false
  · rw [if_pos ha] at e; exact absurd e (by decide)
  · have := List.all_eq_true.1 (Bool.not_eq_false _ ▸ ha : l.all (fun x => decide (0 ≤ x ∧ x ≤ 16)) = true) x hx
    exact of_decide_eq_true this
def symsTo (l : List Int) (n i : Nat) : List Nat := (List.range i).filter (fun i => decide (n ≠ 0 ∧ l.getD i 0 = (n : Int)))
theorem order_l1 (l : List Int) (hl : l.length ≤ 1024) (n : Nat) (hn : 1 ≤ n) (hn2 : n ≤ 16) (r : List Int) (h0 : Ev (fun k => gladstoneref08_Order.l0 k l ((ordTo l (n + 1)).map (fun n : Nat => (n : Int))) ((n + 1 : Nat) : Int)) r) (d : Nat) :
    ∀ i, i + d = l.length → Ev (fun k => gladstoneref08_Order.l1 k l ((ordTo l n ++ symsTo l n i).map (fun n : Nat => (n : Int))) (n : Int) (i : Int)) r := by
  induction d with
  | zero =>
    intro i hi
    refine Ev.step (fun k => ?_) h0
    simp only [gladstoneref08_Order.l1]
    rw [if_neg (by omega), w64 (by omega) (by omega)]
    have e : i = l.length := by omega
    subst e
    rfl
  | succ d ih =>
    intro i hi
    have hx : l[i]? = some (l.getD i 0) := by rw [List.getD_eq_getElem?_getD, List.getElem?_eq_getElem (by omega)]; rfl
    have hlen : (ordTo l n ++ symsTo l n i).length ≤ 20000 := by
      have h1 := S_le (cn l) 1024 (fun j => Nat.le_trans (cn_le l j) hl) n
      have h2 : (symsTo l n i).length ≤ i := Nat.le_trans (List.length_filter_le _ _) (by simp)
      rw [List.length_append, ordTo_length]
      omega
    refine Ev.step (f := fun k => gladstoneref08_Order.l1 k l ((ordTo l n ++ symsTo l n (i + 1)).map (fun n : Nat => (n : Int))) (n : Int) ((i + 1 : Nat) : Int)) (fun k => ?_) (ih (i + 1) (by omega))
    simp only [gladstoneref08_Order.l1]
    rw [if_pos (by omega), if_pos (by omega), rd_some hx, w64 (x := (i : Int) + 1) (by omega) (by omega)]
    have es : symsTo l n (i + 1) = symsTo l n i ++ (if l.getD i 0 = (n : Int) then [i] else []) := by
      unfold symsTo
      rw [List.range_succ, List.filter_append]
      congr 1
      by_cases h : l.getD i 0 = (n : Int)
      · rw [if_pos h, List.filter_cons, if_pos (decide_eq_true ⟨by omega, h⟩)]; rfl
      · rw [if_neg h, List.filter_cons, if_neg (by rw [decide_eq_true_iff]; exact fun h' => h h'.2)]; rfl
    rw [es]
    by_cases h : l.getD i 0 = (n : Int)
    · rw [if_pos h, if_pos h, if_pos (by rw [List.length_map]; omega)]
      simp
    · rw [if_neg h, if_neg h, List.append_nil]; rfl
theorem order_l0 (l : List Int) (hl : l.length ≤ 1024) (d : Nat) : ∀ n, n + d = 17 → 1 ≤ n → Ev (fun k => gladstoneref08_Order.l0 k l ((ordTo l n).map (fun n : Nat => (n : Int))) (n : Int)) (OL l) := by
  induction d with
  | zero =>
    intro n hn h1
    have e : n = 17 := by omega
    subst e
    refine Ev.step (f := fun _ => some (OL l)) (fun k => ?_) (Ev.now _)
    simp only [gladstoneref08_Order.l0]
    rw [if_neg (by omega)]
    unfold OL ord
    exact rfl
  | succ d ih =>
    intro n hn h1
    have h := order_l1 l hl n h1 (by omega) (OL l) (ih (n + 1) (by omega) (by omega)) l.length 0 (by omega)
    refine Ev.step (fun k => ?_) h
    simp only [gladstoneref08_Order.l0]
    rw [if_pos (by omega)]
    have e : ordTo l n ++ symsTo l n 0 = ordTo l n := by simp [symsTo]
    rw [e]; rfl
theorem rorder_ev (l : List Int) (hl : l.length ≤ 17592186044416) : Ev (fun k => gladstoneref08_Order.f k l) (if Pure.chk l 16 = 0 then OL l else []) := by
  refine Ev.congr (f := fun k => (gladstoneref06_Check.f k l 16).bind fun t => if t = 0 then gladstoneref08_Order.l0 k l [] 1 else some []) (fun k => rfl) ?_
  have hc := Pure.rchk_ev l hl 16
  refine Ev.bind hc ?_
  by_cases h : Pure.chk l 16 = 0
  · rw [if_pos h]
    refine Ev.ifp h ?_
    rw [h] at hc
    obtain ⟨k, hk⟩ := hc
    have := (rcheck_ok (hk k (Nat.le_refl _))).1
    have h1 := order_l0 l this 16 1 (by omega) (by omega)
    have e1 : (ordTo l 1).map (fun n : Nat => (n : Int)) = [] := by simp [ordTo, syms]
    rw [e1] at h1
    exact h1
  · rw [if_neg h]
    exact Ev.ifn h (Ev.now _)
end Go.Proofs.Ytbeoacjooaioaaa.Cn
