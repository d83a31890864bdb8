/- Codes of lengths: what the program computes, plainly. -/
import Derived.Test.YtoondlhlcmjniaaCom
set_option linter.unusedVariables false
set_option linter.unusedSimpArgs false
set_option linter.unusedSectionVars false
namespace Go.Proofs.Ytoondlhlcmjniaa.Cn
open Go.Proofs.Ytoondlhlcmjniaa.Com

/-! ### lists by their places -/
def tabn (n : Nat) (f : Nat → Int) : List Int := (List.range n).map f
theorem tabn_length (n : Nat) (f : Nat → Int) : (tabn n f).length = n := by simp [tabn]
theorem tabn_get {n : Nat} {f : Nat → Int} {j : Nat} (h : j < n) : (tabn n f)[j]? = some (f j) := by simp [tabn, List.getElem?_range h]
theorem tabn_getD {n : Nat} {f : Nat → Int} {j : Nat} (h : j < n) : (tabn n f).getD j 0 = f j := by
  rw [List.getD_eq_getElem?_getD, tabn_get h]; rfl
theorem tabn_congr {n : Nat} {f g : Nat → Int} (h : ∀ j, j < n → f j = g j) : tabn n f = tabn n g := by
  unfold tabn
  exact List.map_congr_left (fun j hj => h j (List.mem_range.1 hj))
theorem tabn_set {n : Nat} {f : Nat → Int} (j : Nat) (v : Int) : (tabn n f).set j v = tabn n (fun i => if i = j then v else f i) := by
  apply List.ext_getElem?
  intro i
  by_cases hi : i < n
  · rw [tabn_get hi, List.getElem?_set]
    by_cases hj : j = i
    · subst hj
      simp [tabn_length, hi]
    · rw [if_neg hj, tabn_get hi, if_neg (fun e => hj e.symm)]
  · rw [List.getElem?_eq_none (by rw [List.length_set, tabn_length]; omega), List.getElem?_eq_none (by rw [tabn_length]; omega)]
theorem tabn_of (l : List Int) : l = tabn l.length (fun j => l.getD j 0) := by
  apply List.ext_getElem?
  intro i
  by_cases hi : i < l.length
  · rw [tabn_get hi, List.getD_eq_getElem?_getD, List.getElem?_eq_getElem hi]; rfl
  · rw [List.getElem?_eq_none (by omega), List.getElem?_eq_none (by rw [tabn_length]; omega)]
theorem tabn_zero (n : Nat) : List.replicate n (0 : Int) = tabn n (fun _ => 0) := by
  apply List.ext_getElem?
  intro i
  by_cases hi : i < n
  · rw [tabn_get hi, List.getElem?_replicate, if_pos hi]
  · rw [List.getElem?_eq_none (by rw [List.length_replicate]; omega), List.getElem?_eq_none (by rw [tabn_length]; omega)]

/-! ### how many of each length -/
def cn (l : List Int) (j : Nat) : Nat := if j = 0 then 0 else l.countP (fun x => x == (j : Int))
theorem cn_zero (l : List Int) : cn l 0 = 0 := rfl
theorem cn_le (l : List Int) (j : Nat) : cn l j ≤ l.length := by
  unfold cn
  split
  · omega
  · exact List.countP_le_length
theorem cn_succ {l : List Int} {m : Nat} {x : Int} (h : l[m]? = some x) (j : Nat) : cn (l.take (m + 1)) j = cn (l.take m) j + if j ≠ 0 ∧ x = (j : Int) then 1 else 0 := by
  unfold cn
  by_cases hj : j = 0
  · simp [hj]
  · rw [if_neg hj, if_neg hj, List.take_add_one, h, List.countP_append]
    by_cases hx : x = (j : Int)
    · simp [hj, hx]
    · simp [hj, hx]
theorem cn_append (a b : List Int) (j : Nat) : cn (a ++ b) j = cn a j + cn b j := by
  unfold cn
  split <;> simp [List.countP_append]
theorem cn_take_le (l : List Int) (m j : Nat) : cn (l.take m) j ≤ cn l j := by
  have h := cn_append (l.take m) (l.drop m) j
  rw [List.take_append_drop] at h
  omega
theorem cn_take_lt {l : List Int} {m : Nat} {x : Int} (h : l[m]? = some x) {j : Nat} (hj : j ≠ 0) (hx : x = (j : Int)) : cn (l.take m) j < cn l j := by
  have h1 := cn_succ h j
  rw [if_pos ⟨hj, hx⟩] at h1
  have h2 := cn_take_le l (m + 1) j
  omega

/-! ### where each length begins -/
def F (c : Nat → Nat) : Nat → Nat
  | 0 => 0
  | k + 1 => (c k + F c k) * 2
def S (c : Nat → Nat) : Nat → Nat
  | 0 => 0
  | k + 1 => S c k + c k
theorem F_bd (c : Nat → Nat) (M : Nat) (h : ∀ j, c j ≤ M) (k : Nat) : F c k + 2 * M ≤ 2 * M * 2 ^ k := by
  induction k with
  | zero => simp [F]
  | succ k ih =>
    have := h k
    rw [Nat.pow_succ]
    simp only [F]
    have e : 2 * M * (2 ^ k * 2) = 2 * (2 * M * 2 ^ k) := by rw [Nat.mul_comm (2 ^ k) 2, ← Nat.mul_assoc, Nat.mul_comm (2 * M) 2, Nat.mul_assoc]
    rw [e]
    omega
theorem F_le16 (c : Nat → Nat) (h : ∀ j, c j ≤ 1024) (k : Nat) (hk : k ≤ 17) : F c k ≤ 268435456 := by
  have h1 := F_bd c 1024 h k
  have h2 : 2 ^ k ≤ 2 ^ 17 := Nat.pow_le_pow_right (by omega) hk
  omega
theorem S_le (c : Nat → Nat) (M : Nat) (h : ∀ j, c j ≤ M) (k : Nat) : S c k ≤ M * k := by
  induction k with
  | zero => simp [S]
  | succ k ih =>
    have := h k
    simp only [S]
    rw [Nat.mul_succ]
    omega
theorem S_mono (c : Nat → Nat) {a b : Nat} (h : a ≤ b) : S c a ≤ S c b := by
  induction b with
  | zero => rw [show a = 0 by omega]; exact Nat.le_refl _
  | succ b ih =>
    by_cases e : a = b + 1
    · rw [e]; exact Nat.le_refl _
    · have := ih (by omega)
      simp only [S]; omega

/-! ### codes and their order -/
/-- The length of a symbol's code. -/
def ln (l : List Int) (i : Nat) : Nat := (l.getD i 0).toNat
theorem ln_eq {l : List Int} {i : Nat} {x : Int} (h : l[i]? = some x) : ln l i = x.toNat := by
  unfold ln; rw [List.getD_eq_getElem?_getD, h]; rfl
def rank (l : List Int) (i : Nat) : Nat := cn (l.take i) (ln l i)
def code (l : List Int) (i : Nat) : Nat := if ln l i = 0 then 0 else F (cn l) (ln l i) + rank l i
def pos (l : List Int) (i : Nat) : Nat := S (cn l) (ln l i) + rank l i
def codesL (l : List Int) : List Int := tabn l.length (fun i => (code l i : Int))
/-- The symbols of one length. -/
def syms (l : List Int) (n : Nat) : List Nat := (List.range l.length).filter (fun i => decide (n ≠ 0 ∧ l.getD i 0 = (n : Int)))
/-- The symbols of all lengths below one. -/
def ordTo (l : List Int) : Nat → List Nat
  | 0 => []
  | n + 1 => ordTo l n ++ syms l n
def ord (l : List Int) : List Nat := ordTo l 17
theorem filter_range_len (l : List Int) (n : Nat) (m : Nat) (hm : m ≤ l.length) : ((List.range m).filter (fun i => decide (n ≠ 0 ∧ l.getD i 0 = (n : Int)))).length = cn (l.take m) n := by
  induction m with
  | zero => simp [cn]
  | succ m ih =>
    have hx : l[m]? = some l[m] := List.getElem?_eq_getElem (by omega)
    rw [List.range_succ, List.filter_append, List.length_append, ih (by omega), cn_succ hx]
    congr 1
    have e : l.getD m 0 = l[m] := by rw [List.getD_eq_getElem?_getD, hx]; rfl
    by_cases h : n ≠ 0 ∧ l[m] = (n : Int)
    · rw [if_pos h]
      simp only [List.filter_cons, e, decide_eq_true h]
      rfl
    · rw [if_neg h]
      simp only [List.filter_cons, e, decide_eq_false h]
      rfl
theorem syms_length (l : List Int) (n : Nat) : (syms l n).length = cn l n := by
  have := filter_range_len l n l.length (Nat.le_refl _)
  rw [List.take_length] at this
  exact this
theorem ordTo_length (l : List Int) (n : Nat) : (ordTo l n).length = S (cn l) n := by
  induction n with
  | zero => rfl
  | succ n ih => rw [ordTo, List.length_append, ih, syms_length]; rfl
theorem syms_at (l : List Int) (i : Nat) (hi : i < l.length) (h0 : 0 < l.getD i 0) : (syms l (ln l i))[rank l i]? = some i := by
  have hn : ln l i ≠ 0 ∧ l.getD i 0 = ((ln l i : Nat) : Int) := by unfold ln; omega
  unfold syms rank
  have e1 : List.range l.length = List.range i ++ (i :: (List.range' (i + 1) (l.length - i - 1))) := by
    rw [List.range_eq_range', List.range_eq_range', ← List.range'_succ]
    have := List.range'_append_1 (s := 0) (m := i) (n := l.length - i - 1 + 1)
    rw [Nat.zero_add] at this
    rw [this]
    congr 1
    omega
  rw [e1, List.filter_append, List.getElem?_append_right (by rw [filter_range_len l _ i (by omega)]; exact Nat.le_refl _), filter_range_len l _ i (by omega), Nat.sub_self, List.filter_cons, if_pos (decide_eq_true hn)]
  rfl
theorem mem_syms {l : List Int} {n i : Nat} (h : i ∈ syms l n) : i < l.length ∧ n ≠ 0 ∧ l.getD i 0 = (n : Int) := by
  unfold syms at h
  rw [List.mem_filter] at h
  exact ⟨List.mem_range.1 h.1, of_decide_eq_true h.2⟩
theorem mem_ordTo {l : List Int} {n i : Nat} (h : i ∈ ordTo l n) : i < l.length ∧ 0 < l.getD i 0 ∧ ln l i < n := by
  induction n with
  | zero => cases h
  | succ n ih =>
    rw [ordTo, List.mem_append] at h
    rcases h with h | h
    · have := ih h
      exact ⟨this.1, this.2.1, by omega⟩
    · have := mem_syms h
      unfold ln
      omega
theorem ordTo_at (l : List Int) (i : Nat) (hi : i < l.length) (h0 : 0 < l.getD i 0) (n : Nat) (hn : ln l i < n) : (ordTo l n)[pos l i]? = some i := by
  induction n with
  | zero => omega
  | succ n ih =>
    have hr := syms_at l i hi h0
    have hlt : rank l i < (syms l (ln l i)).length := (List.getElem?_eq_some_iff.1 hr).1
    rw [ordTo]
    by_cases e : ln l i = n
    · rw [List.getElem?_append_right (by rw [ordTo_length, ← e]; unfold pos; omega), ordTo_length, ← e]
      have : pos l i - S (cn l) (ln l i) = rank l i := by unfold pos; omega
      rw [this]
      exact hr
    · have h1 := ih (by omega)
      rw [List.getElem?_append_left ((List.getElem?_eq_some_iff.1 h1).1)]
      exact h1
theorem ordTo_nodup (l : List Int) (n : Nat) : (ordTo l n).Nodup := by
  induction n with
  | zero => exact List.nodup_nil
  | succ n ih =>
    rw [ordTo, List.nodup_append]
    refine ⟨ih, List.nodup_range.filter _, fun a ha b hb => ?_⟩
    have h1 := mem_ordTo ha
    have h2 := mem_syms hb
    rintro rfl
    unfold ln at h1
    omega
/-- The order's entries, by their places. -/
def od (l : List Int) (p : Nat) : Nat := (ord l).getD p 0
theorem ord_length (l : List Int) : (ord l).length = S (cn l) 17 := ordTo_length l 17
theorem od_pos {l : List Int} (hl : ∀ x ∈ l, 0 ≤ x ∧ x ≤ 16) {i : Nat} (hi : i < l.length) (h0 : 0 < l.getD i 0) : pos l i < (ord l).length ∧ od l (pos l i) = i := by
  have hx := hl (l.getD i 0) (by rw [List.getD_eq_getElem?_getD, List.getElem?_eq_getElem hi]; exact List.getElem_mem hi)
  have h := ordTo_at l i hi h0 17 (by unfold ln; omega)
  refine ⟨(List.getElem?_eq_some_iff.1 h).1, ?_⟩
  unfold od
  rw [List.getD_eq_getElem?_getD]
  show ((ordTo l 17)[pos l i]?).getD 0 = i
  rw [h]; rfl
theorem od_mem {l : List Int} {p : Nat} (hp : p < (ord l).length) : od l p < l.length ∧ 0 < l.getD (od l p) 0 ∧ ln l (od l p) ≤ 16 := by
  have h : od l p ∈ ordTo l 17 := by
    unfold od
    rw [List.getD_eq_getElem?_getD, List.getElem?_eq_getElem hp]
    exact List.getElem_mem hp
  have := mem_ordTo h
  exact ⟨this.1, this.2.1, by omega⟩
theorem pos_od {l : List Int} (hl : ∀ x ∈ l, 0 ≤ x ∧ x ≤ 16) {p : Nat} (hp : p < (ord l).length) : pos l (od l p) = p := by
  obtain ⟨h1, h2, _⟩ := od_mem hp
  obtain ⟨h3, h4⟩ := od_pos hl h1 h2
  have hnd := ordTo_nodup l 17
  have e1 : (ord l)[pos l (od l p)]? = some (od l p) := by
    rw [List.getElem?_eq_getElem h3]
    have h5 : (ord l).getD (pos l (od l p)) 0 = od l p := h4
    rw [List.getD_eq_getElem?_getD, List.getElem?_eq_getElem h3] at h5
    exact congrArg some h5
  have e2 : (ord l)[p]? = some (od l p) := by
    unfold od
    rw [List.getD_eq_getElem?_getD, List.getElem?_eq_getElem hp]; rfl
  exact (List.getElem?_inj h3 hnd).1 (e1.trans e2.symm)
end Go.Proofs.Ytoondlhlcmjniaa.Cn
