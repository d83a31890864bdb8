/- bwt: rows of bytes and their ends; what is turned comes back. -/
import Derived.Test.YtdifgiceallpiaaDoorZCom
set_option linter.unusedVariables false
set_option linter.unusedSimpArgs false
set_option linter.unusedSectionVars false
namespace Go.Proofs.YtdifgiceallpiaaDoor.Bw
/-- The byte at a row (not that of the end). -/
def sgn (t : List Nat) (a i : Nat) : Nat := if a < i then t.getD (i - 1) 0 else t.getD i 0
/-- Where the end with that byte ahead of it stands. -/
def bef (t : List Nat) (a i : Nat) : Nat := if i = a then 0 else 1 + (List.range (t.length + 1)).countP (fun k => decide (k ≠ a) && (decide (sgn t a k < sgn t a i) || (decide (sgn t a k = sgn t a i) && decide (k < i))))
def bkL (t : List Nat) (a : Nat) : Nat → Nat → List Nat → List Nat
  | 0, _, s => s
  | k + 1, i, s => if i = a then s else bkL t a k (bef t a i) (sgn t a i :: s)
theorem gD {l : List Nat} {i : Nat} (h : i < l.length) : l.getD i 0 = l[i] := by rw [List.getD_eq_getElem?_getD, List.getElem?_eq_getElem h]; rfl
theorem map_gD (l : List Nat) : (List.range l.length).map (fun k => l.getD k 0) = l := by
  refine List.ext_getElem (by simp) (fun i h1 h2 => ?_)
  simp only [List.getElem_map, List.getElem_range]
  exact gD h2
theorem cnt_gD (l : List Nat) (p : Nat → Bool) : (List.range l.length).countP (fun k => p (l.getD k 0)) = l.countP p := by
  have h := List.countP_map (p := p) (f := fun k => l.getD k 0) (l := List.range l.length)
  rw [map_gD] at h
  exact h.symm
theorem cnt_lt (n j : Nat) (h : j ≤ n) : (List.range n).countP (fun k => decide (k < j)) = j := by
  induction n with
  | zero => simp; omega
  | succ n ih =>
    rw [List.range_succ, List.countP_append]
    by_cases e : j = n + 1
    · subst e
      have : (List.range n).countP (fun k => decide (k < n + 1)) = n := by
        rw [List.countP_eq_length.2 (fun a ha => decide_eq_true (by have := List.mem_range.1 ha; omega)), List.length_range]
      rw [this]; simp
    · rw [ih (by omega)]; simp; omega
theorem cnt_pw {r : Nat → Nat → Prop} [DecidableRel r] {l : List Nat} (h : l.Pairwise r) (hi : ∀ x ∈ l, ¬ r x x) (ha : ∀ x ∈ l, ∀ y ∈ l, r x y → ¬ r y x) {j : Nat} (hj : j < l.length) : l.countP (fun x => decide (r x (l.getD j 0))) = j := by
  rw [← cnt_gD l (fun x => decide (r x (l.getD j 0)))]
  refine Eq.trans (List.countP_congr (fun k hk => ?_)) (cnt_lt l.length j (by omega))
  have hk := List.mem_range.1 hk
  have p := List.pairwise_iff_getElem.1 h
  rw [decide_eq_true_eq, decide_eq_true_eq, gD hk, gD hj]
  constructor
  · intro hr
    rcases Nat.lt_trichotomy k j with h | h | h
    · exact h
    · subst h; exact absurd hr (hi _ (List.getElem_mem _))
    · exact absurd (p j k hj hk h) (ha _ (List.getElem_mem _) _ (List.getElem_mem _) hr)
  · intro hr; exact p k j hk hj hr
/-- A row with an end at a place has the bytes of the text. -/
theorem cnt_sgn (t : List Nat) {a : Nat} (ha : a ≤ t.length) (p : Nat → Bool) : (List.range (t.length + 1)).countP (fun k => decide (k ≠ a) && p (sgn t a k)) = t.countP p := by
  have e : List.range (t.length + 1) = List.range a ++ a :: (List.range (t.length - a)).map (fun m => a + 1 + m) := by
    have := List.range_add (n := a) (m := t.length - a + 1)
    rw [show a + (t.length - a + 1) = t.length + 1 from by omega] at this
    rw [this, List.range_succ_eq_map, List.map_cons, List.map_map]
    simp only [Nat.add_zero, List.append_cancel_left_eq, List.cons.injEq, true_and]
    refine List.map_congr_left (fun m _ => ?_)
    simp only [Function.comp]; omega
  rw [e, List.countP_append, List.countP_cons, List.countP_map]
  have h1 : (List.range a).countP (fun k => decide (k ≠ a) && p (sgn t a k)) = (t.take a).countP p := by
    rw [← cnt_gD (t.take a) p, List.length_take, Nat.min_eq_left ha]
    refine List.countP_congr (fun k hk => ?_)
    have hk := List.mem_range.1 hk
    have : sgn t a k = (t.take a).getD k 0 := by
      unfold sgn
      rw [if_neg (by omega), List.getD_eq_getElem?_getD, List.getD_eq_getElem?_getD, List.getElem?_take_of_lt hk]
    rw [this, decide_eq_true (by omega : k ≠ a), Bool.true_and]
  have h2 : (List.range (t.length - a)).countP ((fun k => decide (k ≠ a) && p (sgn t a k)) ∘ fun m => a + 1 + m) = (t.drop a).countP p := by
    rw [← cnt_gD (t.drop a) p, List.length_drop]
    refine List.countP_congr (fun k hk => ?_)
    have : sgn t a (a + 1 + k) = (t.drop a).getD k 0 := by
      unfold sgn
      rw [if_pos (by omega), List.getD_eq_getElem?_getD, List.getD_eq_getElem?_getD, List.getElem?_drop, show a + 1 + k - 1 = a + k from by omega]
    simp only [Function.comp]
    rw [this, decide_eq_true (by omega : a + 1 + k ≠ a), Bool.true_and]
  rw [h1, h2]
  simp only [ne_eq, not_true, decide_false, Bool.false_and]
  have := congrArg (List.countP p) (List.take_append_drop a t)
  rw [List.countP_append] at this
  simpa using this
theorem cnt_split (n : Nat) (p q : Nat → Bool) (h : ∀ k, k < n → ¬ (p k = true ∧ q k = true)) : (List.range n).countP (fun k => p k || q k) = (List.range n).countP p + (List.range n).countP q := by
  induction n with
  | zero => rfl
  | succ n ih =>
    rw [List.range_succ, List.countP_append, List.countP_append, List.countP_append, ih (fun k hk => h k (by omega))]
    have := h n (by omega)
    simp only [List.countP_singleton]
    cases hp : p n <;> cases hq : q n <;> simp_all <;> omega
theorem cnt_cut (n i : Nat) (hi : i ≤ n) (p : Nat → Bool) : (List.range n).countP (fun k => p k && decide (k < i)) = (List.range i).countP p := by
  have e := List.range_add (n := i) (m := n - i)
  rw [show i + (n - i) = n from by omega] at e
  rw [e, List.countP_append, List.countP_map]
  have h1 : (List.range i).countP (fun k => p k && decide (k < i)) = (List.range i).countP p := List.countP_congr (fun k hk => by
    rw [decide_eq_true (List.mem_range.1 hk), Bool.and_true])
  have h2 : (List.range (n - i)).countP ((fun k => p k && decide (k < i)) ∘ fun x => i + x) = 0 := by
    refine List.countP_eq_zero.2 (fun k _ => ?_)
    simp only [Function.comp]
    rw [decide_eq_false (by omega), Bool.and_false]; simp
  rw [h1, h2]
  rfl
/-- By counting. -/
theorem bef_eq (t : List Nat) {a i : Nat} (ha : a ≤ t.length) (hi : i ≤ t.length) (hn : i ≠ a) : bef t a i = 1 + t.countP (fun y => decide (y < sgn t a i)) + (List.range i).countP (fun k => decide (k ≠ a) && decide (sgn t a k = sgn t a i)) := by
  unfold bef
  rw [if_neg hn, ← cnt_sgn t ha (fun y => decide (y < sgn t a i)), ← cnt_cut (t.length + 1) i (by omega), Nat.add_assoc, ← cnt_split]
  · congr 1
    refine List.countP_congr (fun k _ => ?_)
    generalize sgn t a k = u
    generalize sgn t a i = v
    simp only [Bool.and_eq_true, Bool.or_eq_true, decide_eq_true_eq]
    constructor
    · rintro ⟨h1, h2 | ⟨h2, h3⟩⟩
      · exact .inl ⟨h1, h2⟩
      · exact .inr ⟨⟨h1, h2⟩, h3⟩
    · rintro (⟨h1, h2⟩ | ⟨⟨h1, h2⟩, h3⟩)
      · exact ⟨h1, .inl h2⟩
      · exact ⟨h1, .inr ⟨h2, h3⟩⟩
  · intro k _
    simp only [Bool.and_eq_true, decide_eq_true_eq]
    rintro ⟨⟨_, h⟩, ⟨_, e⟩, _⟩
    omega
theorem bef_le (t : List Nat) {a i : Nat} (ha : a ≤ t.length) (hi : i ≤ t.length) : bef t a i ≤ t.length := by
  by_cases hn : i = a
  · unfold bef; rw [if_pos hn]; omega
  · unfold bef
    rw [if_neg hn]
    have h1 : (List.range (t.length + 1)).countP (fun k => decide (k ≠ a) && (decide (sgn t a k < sgn t a i) || (decide (sgn t a k = sgn t a i) && decide (k < i)))) ≤ (List.range (t.length + 1)).countP (fun k => decide (k ≠ a) && decide (k ≠ i)) := by
      refine List.countP_mono_left (fun k _ => ?_)
      simp only [Bool.and_eq_true, Bool.or_eq_true, decide_eq_true_eq]
      rintro ⟨h1, h2⟩
      refine ⟨h1, fun e => ?_⟩
      subst e
      rcases h2 with h | ⟨_, h⟩ <;> omega
    have h2 := cnt_split (t.length + 1) (fun k => decide (k ≠ a) && decide (k ≠ i)) (fun k => decide (k = i)) (fun k _ => by simp)
    have h3 : (List.range (t.length + 1)).countP (fun k => (decide (k ≠ a) && decide (k ≠ i)) || decide (k = i)) = (List.range (t.length + 1)).countP (fun k => decide (k ≠ a) && (fun _ => true) (sgn t a k)) := List.countP_congr (fun k _ => by
      simp only [Bool.and_eq_true, Bool.or_eq_true, decide_eq_true_eq, and_true]
      constructor
      · rintro (h | h)
        · exact h.1
        · omega
      · intro h
        by_cases e : k = i
        · exact .inr e
        · exact .inl ⟨h, e⟩)
    rw [cnt_sgn t ha (fun _ => true)] at h3
    have h4 : (List.range (t.length + 1)).countP (fun k => decide (k = i)) = 1 := by
      have h5 : (List.range (t.length + 1)).count i = 1 := by
        rw [List.nodup_range.count, if_pos (List.mem_range.2 (by omega))]
      rw [List.count_eq_countP] at h5
      exact Eq.trans (List.countP_congr (fun k _ => by simp)) h5
    have h6 : t.countP (fun _ => true) ≤ t.length := List.countP_le_length
    omega
structure RowsOk (x : List Nat) (R : List Nat) : Prop where
  len : R.length = x.length + 1
  nd : R.Nodup
  lt : ∀ y ∈ R, y < x.length + 1
  all : ∀ y, y < x.length + 1 → y ∈ R
  o : R.Pairwise (fun p q => x.drop p < x.drop q)
theorem RowsOk.perm {x R : List Nat} (h : RowsOk x R) : R.Perm (List.range (x.length + 1)) :=
  (List.perm_ext_iff_of_nodup h.nd List.nodup_range).2 (fun y => ⟨fun m => List.mem_range.2 (h.lt y m), fun m => h.all y (List.mem_range.1 m)⟩)
theorem RowsOk.rank {x R : List Nat} (h : RowsOk x R) {j : Nat} (hj : j < R.length) : R.countP (fun p => decide (x.drop p < x.drop (R.getD j 0))) = j :=
  cnt_pw (r := fun p q => x.drop p < x.drop q) h.o (fun _ _ => List.lt_irrefl _) (fun _ _ _ _ h1 h2 => List.lt_irrefl _ (List.lt_trans h1 h2)) hj
theorem RowsOk.lt_iff {x R : List Nat} (h : RowsOk x R) {j k : Nat} (hj : j < R.length) (hk : k < R.length) : x.drop (R.getD j 0) < x.drop (R.getD k 0) ↔ j < k := by
  have p := List.pairwise_iff_getElem.1 h.o
  rw [gD hj, gD hk]
  constructor
  · intro hr
    rcases Nat.lt_trichotomy j k with h | h | h
    · exact h
    · subst h; exact absurd hr (List.lt_irrefl _)
    · exact absurd (List.lt_trans hr (p k j hk hj h)) (List.lt_irrefl _)
  · exact p j k hj hk
/-- The text turned: the bytes ahead of the rows' ends. -/
def tnT (x R : List Nat) : List Nat := (R.filter (fun p => p ≠ 0)).map (fun p => x.getD (p - 1) 0)
theorem drop_cc {x : List Nat} {p : Nat} (hp : p < x.length) : x.drop p = x.getD p 0 :: x.drop (p + 1) := by
  rw [List.drop_eq_getElem_cons hp, gD hp]
section
variable {x R : List Nat} (h : RowsOk x R) {a : Nat} (ha : a < R.length) (h0 : R.getD a 0 = 0)
include h ha h0
theorem at_iff {k : Nat} (hk : k < R.length) : R.getD k 0 = 0 ↔ k = a := by
  constructor
  · intro e
    have := (h.lt_iff hk ha)
    have t2 := (h.lt_iff ha hk)
    rw [e, h0] at this t2
    have n1 : ¬ k < a := fun hh => List.lt_irrefl _ (this.2 hh)
    have n2 : ¬ a < k := fun hh => List.lt_irrefl _ (t2.2 hh)
    omega
  · intro e; rw [e, h0]
theorem R_split : R = R.take a ++ 0 :: R.drop (a + 1) := by
  have e1 := List.drop_eq_getElem_cons ha
  rw [gD ha] at h0
  rw [h0] at e1
  rw [← e1, List.take_append_drop]
theorem filt : R.filter (fun p => p ≠ 0) = R.take a ++ R.drop (a + 1) := by
  have e := R_split h ha h0
  have hA : (R.take a).filter (fun p => p ≠ 0) = R.take a := List.filter_eq_self.2 (fun y hy => by
    obtain ⟨m, hm, e⟩ := List.mem_iff_getElem.1 hy
    rw [List.length_take] at hm
    rw [List.getElem_take] at e
    refine decide_eq_true (fun z => ?_)
    have := (at_iff h ha h0 (k := m) (by omega)).1 (by rw [gD (by omega), e, z])
    omega)
  have hB : (R.drop (a + 1)).filter (fun p => p ≠ 0) = R.drop (a + 1) := List.filter_eq_self.2 (fun y hy => by
    obtain ⟨m, hm, e⟩ := List.mem_iff_getElem.1 hy
    rw [List.length_drop] at hm
    rw [List.getElem_drop] at e
    refine decide_eq_true (fun z => ?_)
    have := (at_iff h ha h0 (k := a + 1 + m) (by omega)).1 (by rw [gD (by omega), e, z])
    omega)
  conv => lhs; rw [e]
  rw [List.filter_append, List.filter_cons_of_neg (by simp), hA, hB]
theorem tn_len : (tnT x R).length = x.length := by
  unfold tnT
  rw [filt h ha h0, List.length_map, List.length_append, List.length_take, List.length_drop]
  have := h.len
  omega
theorem sgn_tn {k : Nat} (hk : k < R.length) (hn : k ≠ a) : sgn (tnT x R) a k = x.getD (R.getD k 0 - 1) 0 := by
  unfold sgn tnT
  rw [filt h ha h0]
  have hl := h.len
  by_cases hlt : a < k
  · rw [if_pos hlt, gD (by rw [List.length_map, List.length_append, List.length_take, List.length_drop]; omega), List.getElem_map, List.getElem_append_right (by rw [List.length_take]; omega), List.getElem_drop, gD hk]
    congr 2
    simp only [List.length_take]
    congr 1
    omega
  · rw [if_neg hlt, gD (by rw [List.length_map, List.length_append, List.length_take, List.length_drop]; omega), List.getElem_map, List.getElem_append_left (by rw [List.length_take]; omega), List.getElem_take, gD hk]
theorem tn_bef {i : Nat} (hi : i < R.length) (hn : i ≠ a) : bef (tnT x R) a i < R.length ∧ R.getD (bef (tnT x R) a i) 0 = R.getD i 0 - 1 := by
  have hl := h.len
  have hp0 : R.getD i 0 ≠ 0 := fun e => hn ((at_iff h ha h0 hi).1 e)
  have hpm : R.getD i 0 < x.length + 1 := h.lt _ (by rw [gD hi]; exact List.getElem_mem _)
  obtain ⟨j, hj, ej⟩ := List.mem_iff_getElem.1 (h.all (R.getD i 0 - 1) (by omega))
  have ej : R.getD j 0 = R.getD i 0 - 1 := by rw [gD hj, ej]
  have hr := h.rank hj
  rw [h.perm.countP_eq, List.range_succ, List.countP_append, ej] at hr
  have hlast : [x.length].countP (fun p => decide (x.drop p < x.drop (R.getD i 0 - 1))) = 1 := by
    rw [List.countP_singleton, List.drop_eq_nil_of_le (Nat.le_refl _), drop_cc (by omega)]
    rw [decide_eq_true (List.nil_lt_cons _ _)]; rfl
  rw [hlast] at hr
  have key : (List.range ((tnT x R).length + 1)).countP (fun k => decide (k ≠ a) && (decide (sgn (tnT x R) a k < sgn (tnT x R) a i) || (decide (sgn (tnT x R) a k = sgn (tnT x R) a i) && decide (k < i)))) = (List.range x.length).countP (fun p => decide (x.drop p < x.drop (R.getD i 0 - 1))) := by
    rw [tn_len h ha h0, ← hl]
    have e1 : (List.range R.length).countP (fun k => decide (k ≠ a) && (decide (sgn (tnT x R) a k < sgn (tnT x R) a i) || (decide (sgn (tnT x R) a k = sgn (tnT x R) a i) && decide (k < i)))) = (List.range R.length).countP (fun k => (fun p => decide (p ≠ 0) && decide (x.drop (p - 1) < x.drop (R.getD i 0 - 1))) (R.getD k 0)) := by
      refine List.countP_congr (fun k hk => ?_)
      have hk := List.mem_range.1 hk
      simp only [Bool.and_eq_true, Bool.or_eq_true, decide_eq_true_eq, ne_eq, at_iff h ha h0 hk]
      refine and_congr_right (fun hka => ?_)
      have hkm : R.getD k 0 < x.length + 1 := h.lt _ (by rw [gD hk]; exact List.getElem_mem _)
      have hk0 : R.getD k 0 ≠ 0 := fun e => hka ((at_iff h ha h0 hk).1 e)
      rw [sgn_tn h ha h0 hk hka, sgn_tn h ha h0 hi hn, drop_cc (p := R.getD k 0 - 1) (by omega), drop_cc (p := R.getD i 0 - 1) (by omega), List.cons_lt_cons_iff, show R.getD k 0 - 1 + 1 = R.getD k 0 from by omega, show R.getD i 0 - 1 + 1 = R.getD i 0 from by omega, h.lt_iff hk hi]
    rw [e1, cnt_gD R (fun p => decide (p ≠ 0) && decide (x.drop (p - 1) < x.drop (R.getD i 0 - 1))), h.perm.countP_eq, List.range_succ_eq_map, List.countP_cons_of_neg (by simp), List.countP_map]
    refine List.countP_congr (fun k _ => ?_)
    simp [Function.comp]
  have hb : bef (tnT x R) a i = j := by
    unfold bef
    rw [if_neg hn, key]; omega
  rw [hb]
  exact ⟨hj, ej⟩
theorem tn_bk (m : Nat) : ∀ i, i < R.length → R.getD i 0 = m → bkL (tnT x R) a m i (x.drop m) = x := by
  induction m with
  | zero => intro i _ _; rfl
  | succ m ih =>
    intro i hi e
    have hn : i ≠ a := fun hh => by rw [hh, h0] at e; omega
    have hb := tn_bef h ha h0 hi hn
    unfold bkL
    rw [if_neg hn, sgn_tn h ha h0 hi hn, e, Nat.add_sub_cancel]
    have hm : m < x.length := by have := h.lt _ (show R.getD i 0 ∈ R by rw [gD hi]; exact List.getElem_mem _); omega
    rw [← drop_cc hm]
    exact ih _ hb.1 (by rw [hb.2, e]; omega)
end
/-- Rows by the ends' order. -/
theorem rows_of {x l : List Nat} (hlen : l.length = x.length) (hnd : l.Nodup) (hlt : ∀ y ∈ l, y < x.length) (hall : ∀ y, y < x.length → y ∈ l) (ho : l.Pairwise (fun p q => x.drop p < x.drop q)) : RowsOk x (x.length :: l) := by
  refine ⟨by simp [hlen], List.nodup_cons.2 ⟨fun m => absurd (hlt _ m) (by omega), hnd⟩, fun y hy => ?_, fun y hy => ?_, List.pairwise_cons.2 ⟨fun q hq => ?_, ho⟩⟩
  · rcases List.mem_cons.1 hy with e | e
    · omega
    · have := hlt y e; omega
  · by_cases e : y = x.length
    · rw [e]; exact List.mem_cons_self
    · exact List.mem_cons_of_mem _ (hall y (by omega))
  · have := hlt q hq
    rw [List.drop_eq_nil_of_le (Nat.le_refl _), drop_cc this]
    exact List.nil_lt_cons _ _
end Go.Proofs.YtdifgiceallpiaaDoor.Bw
