/- tans: symbols spread over states; states and their symbols; back and forth. -/
import Derived.Test.YtoondlhlcmjniaaZCom
set_option linter.unusedVariables false
set_option linter.unusedSimpArgs false
set_option linter.unusedSectionVars false
namespace Go.Proofs.Ytoondlhlcmjniaa.Tn
theorem gD {l : List Nat} {i : Nat} (h : i < l.length) : l.getD i 0 = l[i] := by rw [List.getD_eq_getElem?_getD, List.getElem?_eq_getElem h]; rfl
theorem map_gD (l : List Nat) : (List.range l.length).map (fun k => l.getD k 0) = l := by
  refine List.ext_getElem (by simp) (fun i h1 h2 => ?_)
  simp only [List.getElem_map, List.getElem_range]
  exact gD h2
/-- From one state to the next, where symbols are spread. -/
def stp (n : Nat) : Nat := 2 ^ n / 2 + 2 ^ n / 8 + 3
def ivn (n : Nat) : Nat := if n = 5 then 7 else if n = 6 then 3 else if n = 7 then 91 else if n = 8 then 11 else if n = 9 then 363 else if n = 10 then 43 else if n = 11 then 1451 else 171
theorem stp_ivn {n : Nat} (h1 : 5 ≤ n) (h2 : n ≤ 12) : stp n * ivn n % 2 ^ n = 1 := by
  obtain h | h | h | h | h | h | h | h : n = 5 ∨ n = 6 ∨ n = 7 ∨ n = 8 ∨ n = 9 ∨ n = 10 ∨ n = 11 ∨ n = 12 := by omega
  all_goals (subst h; decide)
def pos (n k : Nat) : Nat := k * stp n % 2 ^ n
/-- The how-many-th a state is. -/
def whn (n x : Nat) : Nat := x * ivn n % 2 ^ n
theorem two_pos (n : Nat) : 0 < 2 ^ n := Nat.two_pow_pos n
theorem pos_lt (n k : Nat) : pos n k < 2 ^ n := Nat.mod_lt _ (two_pos n)
theorem whn_lt (n x : Nat) : whn n x < 2 ^ n := Nat.mod_lt _ (two_pos n)
theorem whn_pos {n k : Nat} (h1 : 5 ≤ n) (h2 : n ≤ 12) (hk : k < 2 ^ n) : whn n (pos n k) = k := by
  unfold whn pos
  rw [Nat.mod_mul_mod, Nat.mul_assoc, ← Nat.mul_mod_mod, stp_ivn h1 h2, Nat.mul_one, Nat.mod_eq_of_lt hk]
theorem pos_whn {n x : Nat} (h1 : 5 ≤ n) (h2 : n ≤ 12) (hx : x < 2 ^ n) : pos n (whn n x) = x := by
  unfold whn pos
  rw [Nat.mod_mul_mod, Nat.mul_assoc, Nat.mul_comm (ivn n), ← Nat.mul_mod_mod, stp_ivn h1 h2, Nat.mul_one, Nat.mod_eq_of_lt hx]
theorem pos_succ (n k : Nat) : (pos n k + stp n) % 2 ^ n = pos n (k + 1) := by
  unfold pos
  rw [Nat.mod_add_mod, Nat.succ_mul]
theorem pos_zero (n : Nat) : pos n 0 = 0 := by unfold pos; rw [Nat.zero_mul, Nat.zero_mod]
theorem pos_iff {n k x : Nat} (h1 : 5 ≤ n) (h2 : n ≤ 12) (hk : k < 2 ^ n) (hx : x < 2 ^ n) : x = pos n k ↔ whn n x = k := by
  constructor
  · intro h; rw [h, whn_pos h1 h2 hk]
  · intro h; rw [← h, pos_whn h1 h2 hx]
/-- The symbols, each so often as its norm. -/
def seqF : Nat → List Nat → List Nat
  | _, [] => []
  | s, m :: l => List.replicate m s ++ seqF (s + 1) l
theorem seq_len : ∀ (l : List Nat) (s : Nat), (seqF s l).length = l.sum
  | [], _ => rfl
  | m :: l, s => by simp [seqF, seq_len l]
theorem seq_count : ∀ (l : List Nat) (s t : Nat), s ≤ t → (seqF s l).count t = l.getD (t - s) 0
  | [], _, _, _ => by simp [seqF]
  | m :: l, s, t, h => by
    rw [seqF, List.count_append]
    by_cases e : s = t
    · subst e
      have : (seqF (s + 1) l).count s = 0 := by
        rw [List.count_eq_zero]
        intro hm
        have : ∀ (l : List Nat) (q : Nat), ∀ y ∈ seqF q l, q ≤ y := by
          intro l
          induction l with
          | nil => intro q y hy; simp [seqF] at hy
          | cons m l ih =>
            intro q y hy
            rw [seqF, List.mem_append] at hy
            rcases hy with hy | hy
            · rw [(List.mem_replicate.1 hy).2]; exact Nat.le_refl _
            · have := ih (q + 1) y hy; omega
        have := this l (s + 1) s hm
        omega
      rw [this, List.count_replicate_self, Nat.sub_self]; rfl
    · have h2 : s + 1 ≤ t := by omega
      rw [seq_count l (s + 1) t h2, List.count_replicate, if_neg (by simp; exact e), Nat.zero_add]
      obtain ⟨d, hd⟩ : ∃ d, t - s = d + 1 := ⟨t - s - 1, by omega⟩
      rw [hd, show t - (s + 1) = d from by omega]; rfl
theorem seq_mem : ∀ (l : List Nat) (s y : Nat), y ∈ seqF s l → s ≤ y ∧ y < s + l.length ∧ 0 < l.getD (y - s) 0
  | [], _, _, h => by simp [seqF] at h
  | m :: l, s, y, h => by
    rw [seqF, List.mem_append] at h
    rcases h with h | h
    · have := List.mem_replicate.1 h
      rw [this.2]
      refine ⟨Nat.le_refl _, by simp, ?_⟩
      rw [Nat.sub_self]
      have h0 := this.1
      show 0 < m
      omega
    · have := seq_mem l (s + 1) y h
      refine ⟨by omega, by rw [List.length_cons]; omega, ?_⟩
      obtain ⟨d, hd⟩ : ∃ d, y - s = d + 1 := ⟨y - s - 1, by omega⟩
      have h3 := this.2.2
      rw [show y - (s + 1) = d from by omega] at h3
      rw [hd]; exact h3
/-- Where a symbol's row begins. -/
theorem seq_at : ∀ (l : List Nat) (s i c : Nat), i < l.length → c < l.getD i 0 → (seqF s l).getD ((l.take i).sum + c) 0 = s + i
  | [], _, _, _, h, _ => by simp at h
  | m :: l, s, 0, c, _, h => by
    have h : c < m := h
    rw [seqF, List.take_zero, List.sum_nil, Nat.zero_add, List.getD_eq_getElem?_getD, List.getElem?_append_left (by rw [List.length_replicate]; exact h), List.getElem?_replicate, if_pos h]; rfl
  | m :: l, s, i + 1, c, hi, h => by
    have h : c < l.getD i 0 := h
    rw [List.length_cons] at hi
    rw [seqF, List.take_succ_cons, List.sum_cons, List.getD_eq_getElem?_getD, List.getElem?_append_right (by rw [List.length_replicate]; omega), List.length_replicate, show m + (l.take i).sum + c - m = (l.take i).sum + c from by omega, ← List.getD_eq_getElem?_getD, seq_at l (s + 1) i c (by omega) h]
    omega
/-- The symbol of a state. -/
def syF (n : Nat) (l : List Nat) (x : Nat) : Nat := (seqF 0 l).getD (whn n x) 0
section
variable {n : Nat} {l : List Nat} (h1 : 5 ≤ n) (h2 : n ≤ 12) (hs : l.sum = 2 ^ n)
include hs
theorem sy_in (x : Nat) : syF n l x < l.length ∧ 0 < l.getD (syF n l x) 0 := by
  have hw : whn n x < (seqF 0 l).length := by rw [seq_len, hs]; exact whn_lt n x
  have := seq_mem l 0 (syF n l x) (by unfold syF; rw [gD hw]; exact List.getElem_mem _)
  rw [Nat.sub_zero, Nat.zero_add] at this
  exact this.2
include h1 h2
theorem whn_perm : ((List.range (2 ^ n)).map (whn n)).Perm (List.range (2 ^ n)) := by
  have hnd : ((List.range (2 ^ n)).map (whn n)).Nodup := by
    rw [List.nodup_iff_pairwise_ne, List.pairwise_map]
    refine (List.nodup_iff_pairwise_ne.1 List.nodup_range).imp_of_mem ?_
    intro a b ha hb hab e
    have ha := List.mem_range.1 ha
    have hb := List.mem_range.1 hb
    exact hab (by rw [← pos_whn h1 h2 ha, ← pos_whn h1 h2 hb, e])
  refine (List.perm_ext_iff_of_nodup hnd List.nodup_range).2 (fun y => ?_)
  constructor
  · intro hy
    obtain ⟨x, _, rfl⟩ := List.mem_map.1 hy
    exact List.mem_range.2 (whn_lt n x)
  · intro hy
    have hy := List.mem_range.1 hy
    exact List.mem_map.2 ⟨pos n y, List.mem_range.2 (pos_lt n y), whn_pos h1 h2 hy⟩
/-- A symbol has as many states as its norm tells. -/
theorem sy_count (s : Nat) : (List.range (2 ^ n)).countP (fun x => decide (syF n l x = s)) = l.getD s 0 := by
  have e1 : (List.range (2 ^ n)).countP (fun x => decide (syF n l x = s)) = ((List.range (2 ^ n)).map (whn n)).countP (fun k => decide ((seqF 0 l).getD k 0 = s)) := by
    rw [List.countP_map]; rfl
  rw [e1, (whn_perm h1 h2 hs).countP_eq, ← hs, ← seq_len l 0]
  have e2 : (List.range (seqF 0 l).length).countP (fun k => decide ((seqF 0 l).getD k 0 = s)) = ((List.range (seqF 0 l).length).map (fun k => (seqF 0 l).getD k 0)).countP (fun y => decide (y = s)) := by
    rw [List.countP_map]; rfl
  rw [e2, map_gD, ← Nat.sub_zero s, ← seq_count l 0 s (Nat.zero_le _), List.count_eq_countP]
  exact List.countP_congr (fun y _ => by simp)
end
/-- How many lesser states have the same symbol; the states of a symbol. -/
def rkF (f : Nat → Nat) (x : Nat) : Nat := (List.range x).countP (fun z => decide (f z = f x))
def stF (f : Nat → Nat) (N s : Nat) : List Nat := (List.range N).filter (fun z => decide (f z = s))
theorem st_at (f : Nat → Nat) (s : Nat) (N : Nat) : ∀ x, x < N → f x = s → (stF f N s)[(List.range x).countP (fun z => decide (f z = s))]? = some x := by
  induction N with
  | zero => intro x h; omega
  | succ N ih =>
    intro x hx hf
    unfold stF at ih ⊢
    rw [List.range_succ, List.filter_append]
    by_cases e : x = N
    · subst e
      rw [List.getElem?_append_right (by rw [List.countP_eq_length_filter]; exact Nat.le_refl _), List.countP_eq_length_filter, Nat.sub_self, List.filter_cons_of_pos (by simpa using hf)]
      rfl
    · have := ih x (by omega) hf
      rw [List.getElem?_append_left (List.getElem?_eq_some_iff.1 this).1]
      exact this
theorem st_nodup (f : Nat → Nat) (N s : Nat) : (stF f N s).Nodup := List.nodup_range.sublist List.filter_sublist
theorem st_len (f : Nat → Nat) (N s : Nat) : (stF f N s).length = (List.range N).countP (fun z => decide (f z = s)) := by unfold stF; rw [List.countP_eq_length_filter]
/-- The state at a place among a symbol's. -/
theorem st_back {f : Nat → Nat} {N s i : Nat} (hi : i < (stF f N s).length) : (stF f N s).getD i 0 < N ∧ f ((stF f N s).getD i 0) = s ∧ rkF f ((stF f N s).getD i 0) = i := by
  obtain ⟨x, hx⟩ : ∃ x, (stF f N s).getD i 0 = x := ⟨_, rfl⟩
  have hm : x ∈ stF f N s := by rw [← hx, gD hi]; exact List.getElem_mem _
  have hm2 := List.mem_filter.1 hm
  have hN := List.mem_range.1 hm2.1
  have hf : f x = s := by simpa using hm2.2
  rw [hx]
  refine ⟨hN, hf, ?_⟩
  have h := st_at f s N x hN hf
  unfold rkF
  rw [hf]
  have hl := (List.getElem?_eq_some_iff.1 h)
  obtain ⟨h1, h2⟩ := hl
  rw [gD hi] at hx
  exact (List.getElem_inj (st_nodup f N s)).1 (h2.trans hx.symm)
theorem rk_lt {f : Nat → Nat} {N x : Nat} (hx : x < N) : rkF f x < (stF f N (f x)).length := (List.getElem?_eq_some_iff.1 (st_at f (f x) N x hx rfl)).1
/-- How many bits lead from a number on. -/
def kL (N y : Nat) : Nat → Nat → Nat
  | 0, k => k
  | f + 1, k => if y * 2 ^ k < N then kL N y f (k + 1) else k
theorem kL_eq {N y k : Nat} (h1 : N ≤ y * 2 ^ k) (h2 : ∀ j, j < k → y * 2 ^ j < N) : ∀ f j, j ≤ k → k ≤ j + f → kL N y f j = k := by
  intro f
  induction f with
  | zero => intro j h3 h4; unfold kL; omega
  | succ f ih =>
    intro j h3 h4
    unfold kL
    by_cases e : j = k
    · rw [if_neg (by rw [e]; omega)]; exact e
    · rw [if_pos (h2 j (by omega)), ih (j + 1) (by omega) (by omega)]
/-- How many bits are written ahead of a symbol. -/
def bL (m v : Nat) : Nat → Nat → Nat
  | 0, k => k
  | f + 1, k => if 2 * m ≤ v / 2 ^ k then bL m v f (k + 1) else k
theorem bL_ok {m v : Nat} : ∀ f k, (k = 0 ∨ 2 * m ≤ v / 2 ^ (k - 1)) → v / 2 ^ (k + f) < 2 * m → (v / 2 ^ (bL m v f k) < 2 * m ∧ (bL m v f k = 0 ∨ 2 * m ≤ v / 2 ^ (bL m v f k - 1)) ∧ k ≤ bL m v f k ∧ bL m v f k ≤ k + f) := by
  intro f
  induction f with
  | zero => intro k h1 h2; unfold bL; exact ⟨h2, h1, Nat.le_refl _, Nat.le_refl _⟩
  | succ f ih =>
    intro k h1 h2
    unfold bL
    by_cases e : 2 * m ≤ v / 2 ^ k
    · rw [if_pos e]
      have := ih (k + 1) (.inr e) (by rw [show k + 1 + f = k + (f + 1) from by omega]; exact h2)
      exact ⟨this.1, this.2.1, by omega, by omega⟩
    · rw [if_neg e]; exact ⟨by omega, h1, Nat.le_refl _, by omega⟩
/-- What is behind a symbol comes back. -/
theorem back_fwd {n m x k : Nat} (hm : 0 < m) (hmn : m ≤ 2 ^ n) (hx : x < 2 ^ n) (hk : bL m (x + 2 ^ n) (n + 1) 0 = k) :
    k ≤ n ∧ m ≤ (x + 2 ^ n) / 2 ^ k ∧ (x + 2 ^ n) / 2 ^ k - m < m ∧ kL (2 ^ n) ((x + 2 ^ n) / 2 ^ k) (n + 1) 0 = k ∧ (x + 2 ^ n) / 2 ^ k * 2 ^ k - 2 ^ n + (x + 2 ^ n) % 2 ^ k = x := by
  have hp := two_pos n
  have h1n : (x + 2 ^ n) / 2 ^ n < 2 := by rw [Nat.div_lt_iff_lt_mul hp]; omega
  have hB := bL_ok (m := m) (v := x + 2 ^ n) (n + 1) 0 (.inl rfl) (by
    rw [Nat.zero_add, Nat.pow_succ, ← Nat.div_div_eq_div_mul]
    have : (x + 2 ^ n) / 2 ^ n / 2 ≤ (x + 2 ^ n) / 2 ^ n := Nat.div_le_self _ _
    omega)
  rw [hk] at hB
  obtain ⟨b1, b2, _, b4⟩ := hB
  have hkn : k ≤ n := by
    rcases b2 with e | e
    · omega
    · rcases Nat.lt_or_ge n k with h | h
      · have : k = n + 1 := by omega
        rw [this, Nat.add_sub_cancel] at e
        omega
      · exact h
  have hkp := two_pos k
  have hpow : 2 ^ n = 2 ^ (n - k) * 2 ^ k := by rw [← Nat.pow_add]; congr 1; omega
  have hge : 2 ^ n ≤ (x + 2 ^ n) / 2 ^ k * 2 ^ k := by
    have : 2 ^ (n - k) ≤ (x + 2 ^ n) / 2 ^ k := by rw [Nat.le_div_iff_mul_le hkp, ← hpow]; omega
    exact Nat.le_trans (Nat.le_of_eq hpow) (Nat.mul_le_mul_right _ this)
  have hdm := Nat.div_add_mod (x + 2 ^ n) (2 ^ k)
  rw [Nat.mul_comm] at hdm
  have hm2 : m ≤ (x + 2 ^ n) / 2 ^ k := by
    rcases b2 with e | e
    · rw [e, Nat.pow_zero, Nat.div_one]; omega
    · obtain ⟨j, hj⟩ : ∃ j, k = j + 1 ∨ k = 0 := ⟨k - 1, by omega⟩
      rcases hj with hj | hj
      · rw [hj, Nat.add_sub_cancel] at e
        rw [hj, Nat.pow_succ, ← Nat.div_div_eq_div_mul]
        omega
      · rw [hj, Nat.pow_zero, Nat.div_one]; omega
  refine ⟨hkn, hm2, by omega, ?_, by omega⟩
  refine kL_eq hge (fun j hj => ?_) (n + 1) 0 (Nat.zero_le _) (by omega)
  have h3 : (x + 2 ^ n) / 2 ^ k * 2 ^ (j + 1) ≤ (x + 2 ^ n) / 2 ^ k * 2 ^ k := Nat.mul_le_mul_left _ (Nat.pow_le_pow_right (by decide) hj)
  rw [Nat.pow_succ, ← Nat.mul_assoc] at h3
  omega
end Go.Proofs.Ytoondlhlcmjniaa.Tn
