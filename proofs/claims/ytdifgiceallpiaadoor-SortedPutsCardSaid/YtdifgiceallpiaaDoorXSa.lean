/- The induced sort, plainly: a pass. -/
import Derived.Test.YtdifgiceallpiaaDoorXCom
set_option linter.unusedVariables false
set_option linter.unusedSimpArgs false
set_option linter.unusedSectionVars false
namespace Go.Proofs.YtdifgiceallpiaaDoor.Sais
def cnt (n : Nat) (q : Nat → Bool) : Nat := ((List.range n).filter q).length
theorem cnt_le_list {n : Nat} {q : Nat → Bool} {F : List Nat} (hn : F.Nodup) (h : ∀ x ∈ F, x < n ∧ q x = true) : F.length ≤ cnt n q := by
  refine List.Nodup.length_le_of_subset hn (fun x hx => ?_)
  exact List.mem_filter.2 ⟨List.mem_range.2 (h x hx).1, (h x hx).2⟩
theorem cnt_ge_list {n : Nat} {q : Nat → Bool} {F : List Nat} (h : ∀ x, x < n → q x = true → x ∈ F) : cnt n q ≤ F.length := by
  refine List.Nodup.length_le_of_subset (List.nodup_range.filter _) (fun x hx => ?_)
  have := List.mem_filter.1 hx
  exact h x (List.mem_range.1 this.1) this.2
theorem cnt_le (n : Nat) (q : Nat → Bool) : cnt n q ≤ n := by
  have := List.length_filter_le q (List.range n)
  rw [List.length_range] at this
  exact this
theorem cnt_add {n : Nat} {q1 q2 q3 : Nat → Bool} (hd : ∀ i, i < n → q1 i = true → q2 i = true → False) (h1 : ∀ i, i < n → q1 i = true → q3 i = true) (h2 : ∀ i, i < n → q2 i = true → q3 i = true) : cnt n q1 + cnt n q2 ≤ cnt n q3 := by
  unfold cnt
  rw [← List.length_append]
  refine cnt_le_list ?_ (fun x hx => ?_)
  · rw [List.nodup_append]
    refine ⟨List.nodup_range.filter _, List.nodup_range.filter _, ?_⟩
    rintro a ha b hb rfl
    have ha := List.mem_filter.1 ha
    have hb := List.mem_filter.1 hb
    exact hd a (List.mem_range.1 ha.1) ha.2 hb.2
  · rcases List.mem_append.1 hx with hx | hx
    · have := List.mem_filter.1 hx
      exact ⟨List.mem_range.1 this.1, h1 x (List.mem_range.1 this.1) this.2⟩
    · have := List.mem_filter.1 hx
      exact ⟨List.mem_range.1 this.1, h2 x (List.mem_range.1 this.1) this.2⟩
theorem cnt_part {n : Nat} {q1 q2 q3 : Nat → Bool} (hd : ∀ i, i < n → q1 i = true → q2 i = true → False) (h : ∀ i, i < n → (q3 i = true ↔ q1 i = true ∨ q2 i = true)) : cnt n q3 = cnt n q1 + cnt n q2 := by
  refine Nat.le_antisymm ?_ (cnt_add hd (fun i hi h1 => (h i hi).2 (.inl h1)) (fun i hi h1 => (h i hi).2 (.inr h1)))
  unfold cnt
  rw [← List.length_append]
  refine cnt_ge_list (fun x hx hq => ?_)
  rcases (h x hx).1 hq with h1 | h1
  · exact List.mem_append.2 (.inl (List.mem_filter.2 ⟨List.mem_range.2 hx, h1⟩))
  · exact List.mem_append.2 (.inr (List.mem_filter.2 ⟨List.mem_range.2 hx, h1⟩))
section
variable (n : Nat) (b : Nat → Nat) (lt : Nat → Nat → Bool) (ind : Nat → Bool) (G : Nat → List Nat) (B0 : Nat → Int)
def hd (c : Nat) : Nat := cnt n (fun i => lt (b i) c)
def sz (c : Nat) : Nat := cnt n (fun i => b i == c)
def gs (c : Nat) : Nat := hd n b lt c + sz n b c - (G c).length
structure PassOk : Prop where
  asym : ∀ c d, lt c d = true → lt d c = false
  trans : ∀ c d e, lt c d = true → lt d e = true → lt c e = true
  tri : ∀ c d, c ≠ d → lt c d = false → lt d c = true
  ind_lt : ∀ i, ind i = true → i + 1 < n
  t1 : ∀ i, ind i = true → lt (b i) (b (i + 1)) = false
  t2 : ∀ i, ind i = true → i + 1 ∈ G (b (i + 1)) → b i ≠ b (i + 1)
  cov : ∀ i, ind i = true → ind (i + 1) = true ∨ i + 1 ∈ G (b (i + 1))
  g_ok : ∀ c x, x ∈ G c → x < n ∧ b x = c ∧ ind x = false
  g_nd : ∀ c, (G c).Nodup
  g_at : ∀ (c r x : Nat), (G c)[r]? = some x → B0 (gs n b lt G c + r) = (x : Int)
  junk : ∀ j, j < n → (∀ c r, r < (G c).length → j ≠ gs n b lt G c + r) → ∀ i : Nat, B0 j = (i : Int) + 1 → ind i = false
structure RelOk (rel : Nat → Nat → Prop) : Prop where
  o1 : ∀ i j, ind i = true → ind j = true → b i = b j → rel (i + 1) (j + 1) → rel i j
  o2 : ∀ i j, ind i = true → j ∈ G (b i) → rel i j
  o3 : ∀ i j, i < n → j < n → lt (b i) (b j) = true → rel i j
  o4 : ∀ c, (G c).Pairwise rel
def upd {α : Type} (f : Nat → α) (k : Nat) (v : α) : Nat → α := fun i => if i = k then v else f i
def pstep (p : Nat) (S : (Nat → Int) × (Nat → List Nat)) : (Nat → Int) × (Nat → List Nat) :=
  if 1 ≤ S.1 p ∧ ind (S.1 p - 1).toNat = true then
    (upd S.1 (hd n b lt (b (S.1 p - 1).toNat) + (S.2 (b (S.1 p - 1).toNat)).length) (S.1 p - 1), upd S.2 (b (S.1 p - 1).toNat) (S.2 (b (S.1 p - 1).toNat) ++ [(S.1 p - 1).toNat]))
  else S
def prun : Nat → (Nat → Int) × (Nat → List Nat)
  | 0 => (B0, fun _ => [])
  | p + 1 => pstep n b lt ind p (prun p)
def Entry (F : Nat → List Nat) (j x : Nat) : Prop := (∃ (c r : Nat), (F c)[r]? = some x ∧ j = hd n b lt c + r) ∨ (∃ (c r : Nat), (G c)[r]? = some x ∧ j = gs n b lt G c + r)
structure Inv (p : Nat) (S : (Nat → Int) × (Nat → List Nat)) : Prop where
  f_ok : ∀ c i, i ∈ S.2 c → ind i = true ∧ b i = c ∧ ∃ j, j < p ∧ Entry n b lt G S.2 j (i + 1)
  f_nd : ∀ c, (S.2 c).Nodup
  rd : ∀ j x, j < p → Entry n b lt G S.2 j (x + 1) → ind x = true → x ∈ S.2 (b x)
  fB : ∀ (c r x : Nat), (S.2 c)[r]? = some x → S.1 (hd n b lt c + r) = (x : Int)
  oB : ∀ j, (∀ c r, r < (S.2 c).length → j ≠ hd n b lt c + r) → S.1 j = B0 j
def FRel (rel : Nat → Nat → Prop) (F : Nat → List Nat) : Prop := ∀ c, (F c).Pairwise rel
end
section
variable {n : Nat} {b : Nat → Nat} {lt : Nat → Nat → Bool} {ind : Nat → Bool} {G : Nat → List Nat} {B0 : Nat → Int}
theorem hd_mono (h : PassOk n b lt ind G B0) {c d : Nat} (hc : lt c d = true) : hd n b lt c + sz n b c ≤ hd n b lt d := by
  refine cnt_add (fun i _ h1 h2 => ?_) (fun i _ h1 => h.trans _ _ _ h1 hc) (fun i _ h1 => ?_)
  · have e : b i = c := by simpa using h2
    rw [e] at h1
    have := h.asym _ _ h1
    rw [h1] at this
    cases this
  · have e : b i = c := by simpa using h1
    rw [e]; exact hc
theorem hd_n (h : PassOk n b lt ind G B0) (c : Nat) : hd n b lt c + sz n b c ≤ n := by
  refine Nat.le_trans (cnt_add (q3 := fun _ => true) (fun i _ h1 h2 => ?_) (fun _ _ _ => rfl) (fun _ _ _ => rfl)) (cnt_le n _)
  have e : b i = c := by simpa using h2
  rw [e] at h1
  have := h.asym _ _ h1
  rw [h1] at this
  cases this
variable {S : (Nat → Int) × (Nat → List Nat)} {p : Nat}
theorem caps' (h : PassOk n b lt ind G B0) {F : Nat → List Nat} (hf : ∀ c i, i ∈ F c → ind i = true ∧ b i = c) (hn : ∀ c, (F c).Nodup) (c : Nat) : (F c).length + (G c).length ≤ sz n b c := by
  rw [← List.length_append]
  refine cnt_le_list ?_ (fun x hx => ?_)
  · rw [List.nodup_append]
    refine ⟨hn c, h.g_nd c, ?_⟩
    rintro a ha y hy rfl
    have h1 := (hf c a ha).1
    have h2 := (h.g_ok c a hy).2.2
    rw [h1] at h2
    cases h2
  · rcases List.mem_append.1 hx with hx | hx
    · have := hf c x hx
      exact ⟨by have := h.ind_lt x this.1; omega, by simp [this.2]⟩
    · have := h.g_ok c x hx
      exact ⟨this.1, by simp [this.2.1]⟩
theorem caps (h : PassOk n b lt ind G B0) (hi : Inv n b lt ind G B0 p S) (c : Nat) : (S.2 c).length + (G c).length ≤ sz n b c :=
  caps' h (fun c i hc => ⟨(hi.f_ok c i hc).1, (hi.f_ok c i hc).2.1⟩) hi.f_nd c
theorem get_lt {l : List Nat} {r x : Nat} (h : l[r]? = some x) : r < l.length := (List.getElem?_eq_some_iff.1 h).1
theorem get_mem {l : List Nat} {r x : Nat} (h : l[r]? = some x) : x ∈ l := List.mem_of_getElem? h
theorem ent_at (h : PassOk n b lt ind G B0) (hi : Inv n b lt ind G B0 p S) {j x : Nat} (he : Entry n b lt G S.2 j x) : x < n ∧ hd n b lt (b x) ≤ j ∧ j < hd n b lt (b x) + sz n b (b x) ∧
    ((∃ r, (S.2 (b x))[r]? = some x ∧ j = hd n b lt (b x) + r ∧ ind x = true) ∨ (∃ r, (G (b x))[r]? = some x ∧ j = gs n b lt G (b x) + r ∧ ind x = false)) := by
  rcases he with ⟨c, r, hr, rfl⟩ | ⟨c, r, hr, rfl⟩
  · have h1 := hi.f_ok c x (get_mem hr)
    have h2 := caps h hi c
    have h3 := get_lt hr
    have h4 := h.ind_lt x h1.1
    obtain ⟨h5, rfl, _⟩ := h1
    exact ⟨by omega, by omega, by omega, .inl ⟨r, hr, rfl, h5⟩⟩
  · have h1 := h.g_ok c x (get_mem hr)
    have h2 := caps h hi c
    have h3 := get_lt hr
    obtain ⟨h5, rfl, h6⟩ := h1
    refine ⟨h5, ?_, ?_, .inr ⟨r, hr, rfl, h6⟩⟩
    · unfold gs; omega
    · unfold gs; omega
theorem ent_val (h : PassOk n b lt ind G B0) (hi : Inv n b lt ind G B0 p S) {j x : Nat} (he : Entry n b lt G S.2 j x) : S.1 j = (x : Int) := by
  rcases (ent_at h hi he) with ⟨h1, h2, h3, ⟨r, hr, rfl, _⟩ | ⟨r, hr, e, _⟩⟩
  · exact hi.fB _ _ _ hr
  · rw [hi.oB j, e, h.g_at _ _ _ hr]
    intro c q hq e2
    have h4 := caps h hi c
    by_cases hc : c = b x
    · subst hc
      have := get_lt hr
      unfold gs at e
      omega
    · cases hlt : lt c (b x) with
      | true => have := hd_mono h hlt; omega
      | false => have := hd_mono h (h.tri _ _ hc hlt); omega
theorem ent_rel (h : PassOk n b lt ind G B0) (hi : Inv n b lt ind G B0 p S) {rel : Nat → Nat → Prop} (hr : RelOk n b lt ind G rel) (hf : FRel rel S.2) {j j' x y : Nat} (hx : Entry n b lt G S.2 j x) (hy : Entry n b lt G S.2 j' y) (hj : j < j') : rel x y := by
  obtain ⟨x1, x2, x3, x4⟩ := ent_at h hi hx
  obtain ⟨y1, y2, y3, y4⟩ := ent_at h hi hy
  by_cases hc : b x = b y
  · have h4 := caps h hi (b x)
    rcases x4 with ⟨r, hr1, e1, i1⟩ | ⟨r, hr1, e1, i1⟩ <;> rcases y4 with ⟨r', hr2, e2, i2⟩ | ⟨r', hr2, e2, i2⟩
    · rw [← hc] at hr2 e2
      obtain ⟨l1, q1⟩ := List.getElem?_eq_some_iff.1 hr1
      obtain ⟨l2, q2⟩ := List.getElem?_eq_some_iff.1 hr2
      have := List.pairwise_iff_getElem.1 (hf (b x)) r r' l1 l2 (by omega)
      rw [q1, q2] at this
      exact this
    · exact hr.o2 x y i1 (hc ▸ get_mem hr2)
    · rw [← hc] at hr2 e2
      have := get_lt hr1
      have := get_lt hr2
      unfold gs at e1
      omega
    · rw [← hc] at hr2 e2
      obtain ⟨l1, q1⟩ := List.getElem?_eq_some_iff.1 hr1
      obtain ⟨l2, q2⟩ := List.getElem?_eq_some_iff.1 hr2
      have := List.pairwise_iff_getElem.1 (hr.o4 (b x)) r r' l1 l2 (by omega)
      rw [q1, q2] at this
      exact this
  · cases hlt : lt (b x) (b y) with
    | true => exact hr.o3 x y x1 y1 hlt
    | false => have := hd_mono h (h.tri _ _ hc hlt); omega
theorem ent_inj (h : PassOk n b lt ind G B0) (hi : Inv n b lt ind G B0 p S) {j j' x : Nat} (hx : Entry n b lt G S.2 j x) (hy : Entry n b lt G S.2 j' x) : j = j' := by
  obtain ⟨x1, x2, x3, x4⟩ := ent_at h hi hx
  obtain ⟨y1, y2, y3, y4⟩ := ent_at h hi hy
  rcases x4 with ⟨r, hr1, e1, i1⟩ | ⟨r, hr1, e1, i1⟩ <;> rcases y4 with ⟨r', hr2, e2, i2⟩ | ⟨r', hr2, e2, i2⟩
  · have := (List.getElem?_inj (get_lt hr1) (hi.f_nd _)).1 (hr1.trans hr2.symm)
    omega
  · rw [i1] at i2; cases i2
  · rw [i1] at i2; cases i2
  · have := (List.getElem?_inj (get_lt hr1) (h.g_nd _)).1 (hr1.trans hr2.symm)
    omega
theorem inv_start (B0 : Nat → Int) : Inv n b lt ind G B0 0 (B0, fun _ => []) := ⟨by simp, by simp, by intro j x h; omega, by simp, by simp⟩
theorem step_read (h : PassOk n b lt ind G B0) (hi : Inv n b lt ind G B0 p S) (hp : p < n) : (∃ x, Entry n b lt G S.2 p x ∧ S.1 p = (x : Int)) ∨ ((∀ x, ¬ Entry n b lt G S.2 p x) ∧ ∀ i : Nat, S.1 p = (i : Int) + 1 → ind i = false) := by
  by_cases he : ∃ x, Entry n b lt G S.2 p x
  · obtain ⟨x, hx⟩ := he
    exact .inl ⟨x, hx, ent_val h hi hx⟩
  · refine .inr ⟨fun x hx => he ⟨x, hx⟩, fun i hx => ?_⟩
    rw [hi.oB p] at hx
    · refine h.junk p hp (fun c r hr e => ?_) i hx
      exact he ⟨_, .inr ⟨c, r, List.getElem?_eq_getElem hr, e⟩⟩
    · intro c r hr e
      exact he ⟨_, .inl ⟨c, r, List.getElem?_eq_getElem hr, e⟩⟩
theorem step_room (h : PassOk n b lt ind G B0) (hi : Inv n b lt ind G B0 p S) (hp : p < n) {y : Nat} (he : S.1 p = (y : Int) + 1) (hy : ind y = true) :
    Entry n b lt G S.2 p (y + 1) ∧ y ∉ S.2 (b y) ∧ p < hd n b lt (b y) + (S.2 (b y)).length ∧ (S.2 (b y)).length + (G (b y)).length < sz n b (b y) ∧ hd n b lt (b y) + (S.2 (b y)).length < n := by
  rcases step_read h hi hp with ⟨x, hx, hv⟩ | ⟨_, hv⟩
  · obtain rfl : x = y + 1 := by rw [he] at hv; omega
    have hny : y ∉ S.2 (b y) := by
      intro hm
      obtain ⟨_, _, j, hj, hej⟩ := hi.f_ok _ _ hm
      have := ent_inj h hi hej hx
      omega
    have hcap : (S.2 (b y)).length + (G (b y)).length < sz n b (b y) := by
      have := caps' h (F := upd S.2 (b y) (S.2 (b y) ++ [y])) (fun c i hc => ?_) (fun c => ?_) (b y)
      · simp only [upd, if_true, List.length_append, List.length_singleton] at this
        omega
      · unfold upd at hc
        split at hc
        · rename_i ec
          rcases List.mem_append.1 hc with hc | hc
          · rw [ec]; exact ⟨(hi.f_ok _ _ hc).1, (hi.f_ok _ _ hc).2.1⟩
          · rw [List.mem_singleton.1 hc, ec]; exact ⟨hy, rfl⟩
        · exact ⟨(hi.f_ok _ _ hc).1, (hi.f_ok _ _ hc).2.1⟩
      · unfold upd
        split
        · rw [List.nodup_append]
          exact ⟨hi.f_nd _, by simp, by intro a ha z hz; rw [List.mem_singleton.1 hz]; rintro rfl; exact hny ha⟩
        · exact hi.f_nd c
    refine ⟨hx, hny, ?_, hcap, by have := hd_n h (b y); omega⟩
    obtain ⟨x1, x2, x3, x4⟩ := ent_at h hi hx
    have ht1 := h.t1 y hy
    by_cases hc : b y = b (y + 1)
    · rcases x4 with ⟨r, hr1, e1, i1⟩ | ⟨r, hr1, e1, i1⟩
      · rw [hc, e1]
        have := get_lt hr1
        omega
      · exact absurd hc (h.t2 y hy (get_mem hr1))
    · have := hd_mono h (h.tri _ _ hc ht1)
      omega
  · have := hv y he
    rw [hy] at this
    cases this
theorem upd_same {α : Type} (f : Nat → α) (k : Nat) (v : α) : upd f k v k = v := by simp [upd]
theorem upd_ne {α : Type} (f : Nat → α) {k i : Nat} (v : α) (h : i ≠ k) : upd f k v i = f i := by simp [upd, h]
theorem upd_mem {F : Nat → List Nat} {c y d i : Nat} (h : i ∈ F d) : i ∈ upd F c (F c ++ [y]) d := by
  unfold upd
  split
  · rename_i e; subst e; exact List.mem_append.2 (.inl h)
  · exact h
theorem upd_get {F : Nat → List Nat} {c y d r x : Nat} (h : (F d)[r]? = some x) : (upd F c (F c ++ [y]) d)[r]? = some x := by
  unfold upd
  split
  · rename_i e; subst e; rw [List.getElem?_append_left (get_lt h)]; exact h
  · exact h
theorem upd_get_inv {F : Nat → List Nat} {c y d r x : Nat} (h : (upd F c (F c ++ [y]) d)[r]? = some x) : (F d)[r]? = some x ∨ (d = c ∧ r = (F c).length ∧ x = y) := by
  unfold upd at h
  split at h
  · rename_i e
    subst e
    rcases Nat.lt_or_ge r (F d).length with hr | hr
    · rw [List.getElem?_append_left hr] at h; exact .inl h
    · rw [List.getElem?_append_right hr] at h
      have h2 := get_lt h
      rw [List.length_singleton] at h2
      have : r = (F d).length := by omega
      subst this
      rw [Nat.sub_self] at h
      exact .inr ⟨rfl, rfl, by simpa using h.symm⟩
  · exact .inl h
theorem inv_step (h : PassOk n b lt ind G B0) (hi : Inv n b lt ind G B0 p S) (hp : p < n) : Inv n b lt ind G B0 (p + 1) (pstep n b lt ind p S) := by
  by_cases hc : 1 ≤ S.1 p ∧ ind (S.1 p - 1).toNat = true
  · obtain ⟨y, hy⟩ : ∃ y : Nat, S.1 p = (y : Int) + 1 := ⟨(S.1 p - 1).toNat, by omega⟩
    have ey : (S.1 p - 1).toNat = y := by omega
    have ev : S.1 p - 1 = (y : Int) := by omega
    have hiy : ind y = true := by rw [← ey]; exact hc.2
    obtain ⟨hx, hny, hq, hcap, hqn⟩ := step_room h hi hp hy hiy
    have hst : pstep n b lt ind p S = (upd S.1 (hd n b lt (b y) + (S.2 (b y)).length) (y : Int), upd S.2 (b y) (S.2 (b y) ++ [y])) := by
      unfold pstep
      rw [if_pos hc, ey, ev]
    rw [hst]
    have e1 : ∀ j x, Entry n b lt G S.2 j x → Entry n b lt G (upd S.2 (b y) (S.2 (b y) ++ [y])) j x := by
      rintro j x (⟨c, r, hr, e⟩ | e)
      · exact .inl ⟨c, r, upd_get hr, e⟩
      · exact .inr e
    have e2 : ∀ j x, Entry n b lt G (upd S.2 (b y) (S.2 (b y) ++ [y])) j x → Entry n b lt G S.2 j x ∨ j = hd n b lt (b y) + (S.2 (b y)).length := by
      rintro j x (⟨c, r, hr, e⟩ | e)
      · rcases upd_get_inv hr with hr | ⟨rfl, rfl, _⟩
        · exact .inl (.inl ⟨c, r, hr, e⟩)
        · exact .inr e
      · exact .inl (.inr e)
    refine ⟨fun c i hm => ?_, fun c => ?_, fun j x hj hej hix => ?_, fun c r x hr => ?_, fun j hj => ?_⟩
    · show ind i = true ∧ b i = c ∧ _
      have hm : i ∈ upd S.2 (b y) (S.2 (b y) ++ [y]) c := hm
      have hm' : i ∈ S.2 c ∨ (c = b y ∧ i = y) := by
        unfold upd at hm
        split at hm
        · rename_i ec
          rcases List.mem_append.1 hm with hm | hm
          · exact .inl (ec ▸ hm)
          · exact .inr ⟨ec, List.mem_singleton.1 hm⟩
        · exact .inl hm
      rcases hm' with hm | ⟨rfl, rfl⟩
      · obtain ⟨a1, a2, j, a3, a4⟩ := hi.f_ok c i hm
        exact ⟨a1, a2, j, by omega, e1 _ _ a4⟩
      · exact ⟨hiy, rfl, p, by omega, e1 _ _ hx⟩
    · show (upd S.2 (b y) (S.2 (b y) ++ [y]) c).Nodup
      unfold upd
      split
      · rw [List.nodup_append]
        exact ⟨hi.f_nd _, by simp, by intro a ha z hz; rw [List.mem_singleton.1 hz]; rintro rfl; exact hny ha⟩
      · exact hi.f_nd c
    · show x ∈ upd S.2 (b y) (S.2 (b y) ++ [y]) (b x)
      rcases e2 _ _ hej with he | he
      · by_cases hjp : j = p
        · subst hjp
          have h1 := ent_val h hi he
          obtain rfl : x = y := by rw [hy] at h1; omega
          rw [upd_same]
          simp
        · exact upd_mem (hi.rd j x (by omega) he hix)
      · omega
    · show upd S.1 (hd n b lt (b y) + (S.2 (b y)).length) (y : Int) (hd n b lt c + r) = (x : Int)
      have hr : (upd S.2 (b y) (S.2 (b y) ++ [y]) c)[r]? = some x := hr
      rcases upd_get_inv hr with hr | ⟨rfl, rfl, rfl⟩
      · rw [upd_ne, hi.fB _ _ _ hr]
        intro e
        have hl := get_lt hr
        have h4 := caps h hi c
        by_cases hcy : c = b y
        · subst hcy; omega
        · cases hlt : lt c (b y) with
          | true => have := hd_mono h hlt; omega
          | false => have := hd_mono h (h.tri _ _ hcy hlt); omega
      · rw [upd_same]
    · show upd S.1 (hd n b lt (b y) + (S.2 (b y)).length) (y : Int) j = B0 j
      rw [upd_ne]
      · refine hi.oB j (fun c r hr => hj c r ?_)
        show r < (upd S.2 (b y) (S.2 (b y) ++ [y]) c).length
        unfold upd
        split
        · rename_i e; subst e; rw [List.length_append]; omega
        · exact hr
      · refine hj (b y) (S.2 (b y)).length ?_
        show (S.2 (b y)).length < (upd S.2 (b y) (S.2 (b y) ++ [y]) (b y)).length
        rw [upd_same, List.length_append, List.length_singleton]; omega
  · have hst : pstep n b lt ind p S = S := by unfold pstep; rw [if_neg hc]
    rw [hst]
    refine ⟨fun c i hm => ?_, hi.f_nd, fun j x hj hej hix => ?_, hi.fB, hi.oB⟩
    · obtain ⟨a1, a2, j, a3, a4⟩ := hi.f_ok c i hm
      exact ⟨a1, a2, j, by omega, a4⟩
    · by_cases hjp : j = p
      · subst hjp
        have h1 := ent_val h hi hej
        refine absurd ⟨by omega, ?_⟩ hc
        have : (S.1 j - 1).toNat = x := by omega
        rw [this]; exact hix
      · exact hi.rd j x (by omega) hej hix
theorem inv_run (h : PassOk n b lt ind G B0) : ∀ p, p ≤ n → Inv n b lt ind G B0 p (prun n b lt ind B0 p) := by
  intro p
  induction p with
  | zero => intro _; exact inv_start B0
  | succ p ih => intro hp; exact inv_step h (ih (by omega)) (by omega)
theorem rel_run (h : PassOk n b lt ind G B0) {rel : Nat → Nat → Prop} (hr : RelOk n b lt ind G rel) : ∀ p, p ≤ n → FRel rel (prun n b lt ind B0 p).2 := by
  intro p
  induction p with
  | zero => intro _ c; exact List.Pairwise.nil
  | succ p ih =>
    intro hp
    have hi := inv_run h p (by omega)
    have hf := ih (by omega)
    obtain ⟨S, hS⟩ : ∃ S, prun n b lt ind B0 p = S := ⟨_, rfl⟩
    show FRel rel (pstep n b lt ind p (prun n b lt ind B0 p)).2
    rw [hS] at hi hf ⊢
    by_cases hc : 1 ≤ S.1 p ∧ ind (S.1 p - 1).toNat = true
    · obtain ⟨y, hy⟩ : ∃ y : Nat, S.1 p = (y : Int) + 1 := ⟨(S.1 p - 1).toNat, by omega⟩
      have ey : (S.1 p - 1).toNat = y := by omega
      have hiy : ind y = true := by rw [← ey]; exact hc.2
      obtain ⟨hx, hny, hq, hcap, hqn⟩ := step_room h hi (by omega) hy hiy
      unfold pstep
      rw [if_pos hc, ey]
      intro c
      show (upd S.2 (b y) (S.2 (b y) ++ [y]) c).Pairwise rel
      unfold upd
      split
      · rw [List.pairwise_append]
        refine ⟨hf _, by simp, fun z hz x' hx' => ?_⟩
        rw [List.mem_singleton.1 hx']
        obtain ⟨a1, a2, j, a3, a4⟩ := hi.f_ok _ _ hz
        exact hr.o1 z y a1 hiy a2 (ent_rel h hi hr hf a4 hx a3)
      · exact hf c
    · unfold pstep
      rw [if_neg hc]
      exact hf
theorem run_all (h : PassOk n b lt ind G B0) : ∀ d i, i + d = n → ind i = true → i ∈ (prun n b lt ind B0 n).2 (b i) := by
  have hi := inv_run h n (Nat.le_refl _)
  intro d
  induction d with
  | zero => intro i hd hx; have := h.ind_lt i hx; omega
  | succ d ih =>
    intro i hdi hx
    have hl := h.ind_lt i hx
    have : ∃ j, Entry n b lt G (prun n b lt ind B0 n).2 j (i + 1) := by
      rcases h.cov i hx with h1 | h1
      · have := ih (i + 1) (by omega) h1
        obtain ⟨r, hr, e⟩ := List.mem_iff_getElem.1 this
        exact ⟨_, .inl ⟨_, r, List.getElem?_eq_some_iff.2 ⟨hr, e⟩, rfl⟩⟩
      · obtain ⟨r, hr, e⟩ := List.mem_iff_getElem.1 h1
        exact ⟨_, .inr ⟨_, r, List.getElem?_eq_some_iff.2 ⟨hr, e⟩, rfl⟩⟩
    obtain ⟨j, hj⟩ := this
    have h4 := (ent_at h hi hj)
    have h5 := hd_n h (b (i + 1))
    exact hi.rd j i (by omega) hj hx
theorem run_mem (h : PassOk n b lt ind G B0) (c i : Nat) : i ∈ (prun n b lt ind B0 n).2 c ↔ ind i = true ∧ b i = c := by
  have hi := inv_run h n (Nat.le_refl _)
  constructor
  · intro hm
    exact ⟨(hi.f_ok c i hm).1, (hi.f_ok c i hm).2.1⟩
  · rintro ⟨h1, rfl⟩
    have := h.ind_lt i h1
    exact run_all h (n - i) i (by omega) h1
end
end Go.Proofs.YtdifgiceallpiaaDoor.Sais
/- The induced sort, plainly: both passes. -/
namespace Go.Proofs.YtdifgiceallpiaaDoor.Sais
structure Txt (n : Nat) (s : Nat → Nat) (ls : Nat → Bool) : Prop where
  n2 : 2 ≤ n
  last : s (n - 1) = 0
  pos : ∀ i, i + 1 < n → 0 < s i
  ll : ls (n - 1) = true
  lr : ∀ i, i + 1 < n → ls i = (decide (s i < s (i + 1)) || (decide (s i = s (i + 1)) && ls (i + 1)))
def tn (ls : Nat → Bool) (i : Nat) : Bool := decide (0 < i) && ls i && !ls (i - 1)
structure Turns (n : Nat) (ls : Nat → Bool) (T : List Nat) : Prop where
  nd : T.Nodup
  mem : ∀ x, x ∈ T ↔ x < n ∧ tn ls x = true
def upB : Nat → Nat → Bool := fun c d => decide (c < d)
def dnB : Nat → Nat → Bool := fun c d => decide (d < c)
def buck (s : Nat → Nat) (T : List Nat) (c : Nat) : List Nat := T.filter (fun x => s x == c)
def place (s : Nat → Nat) : List Nat → (Nat → Int) × (Nat → Nat) → (Nat → Int) × (Nat → Nat)
  | [], S => S
  | x :: t, S => (upd (place s t S).1 ((place s t S).2 (s x) - 1) (x : Int), upd (place s t S).2 (s x) ((place s t S).2 (s x) - 1))
def tl (n : Nat) (s : Nat → Nat) (c : Nat) : Nat := hd n s upB c + sz n s c
theorem up_mono {n : Nat} {s : Nat → Nat} {c d : Nat} (hc : c < d) : hd n s upB c + sz n s c ≤ hd n s upB d := by
  refine cnt_add (fun i _ h1 h2 => ?_) (fun i _ h1 => ?_) (fun i _ h1 => ?_)
  · have e : s i = c := by simpa using h2
    have : s i < c := of_decide_eq_true h1
    omega
  · have : s i < c := of_decide_eq_true h1
    exact decide_eq_true (by omega)
  · have e : s i = c := by simpa using h1
    exact decide_eq_true (by omega)
theorem up_n {n : Nat} {s : Nat → Nat} (c : Nat) : hd n s upB c + sz n s c ≤ n := by
  refine Nat.le_trans (cnt_add (q3 := fun _ => true) (fun i _ h1 h2 => ?_) (fun _ _ _ => rfl) (fun _ _ _ => rfl)) (cnt_le n _)
  have e : s i = c := by simpa using h2
  have : s i < c := of_decide_eq_true h1
  omega
theorem buck_len {n : Nat} {s : Nat → Nat} {U : List Nat} (hn : U.Nodup) (hl : ∀ x ∈ U, x < n) (c : Nat) : (buck s U c).length ≤ sz n s c := by
  refine cnt_le_list (hn.filter _) (fun x hx => ?_)
  have := List.mem_filter.1 hx
  exact ⟨hl x this.1, this.2⟩
theorem zcd (s : Nat → Nat) (x : Nat) (t : List Nat) : buck s (x :: t) (s x) = x :: buck s t (s x) := by simp [buck]
theorem buck_cons_ne (s : Nat → Nat) {x c : Nat} (t : List Nat) (h : s x ≠ c) : buck s (x :: t) c = buck s t c := by simp [buck, h]
theorem place_ok {n : Nat} {s : Nat → Nat} : ∀ U : List Nat, U.Nodup → (∀ x ∈ U, x < n) →
    (∀ c, (place s U (fun _ => -1, tl n s)).2 c = gs n s upB (buck s U) c) ∧ (∀ (c r x : Nat), (buck s U c)[r]? = some x → (place s U (fun _ => -1, tl n s)).1 (gs n s upB (buck s U) c + r) = (x : Int)) ∧
    (∀ j, (∀ c r, r < (buck s U c).length → j ≠ gs n s upB (buck s U) c + r) → (place s U (fun _ => -1, tl n s)).1 j = -1) := by
  intro U
  induction U with
  | nil =>
    intro _ _
    refine ⟨fun c => ?_, fun c r x h => ?_, fun j _ => rfl⟩
    · simp [place, gs, buck, tl]
    · simp [buck] at h
  | cons y t ih =>
    intro hn hl
    have hn2 := List.nodup_cons.1 hn
    obtain ⟨i1, i2, i3⟩ := ih hn2.2 (fun x hx => hl x (List.mem_cons_of_mem _ hx))
    have hc := fun c => buck_len (s := s) hn hl c
    have hct := fun c => buck_len (s := s) hn2.2 (fun x hx => hl x (List.mem_cons_of_mem _ hx)) c
    have hy := hc (s y)
    rw [zcd, List.length_cons] at hy
    have gy : gs n s upB (buck s (y :: t)) (s y) = gs n s upB (buck s t) (s y) - 1 := by
      unfold gs
      rw [zcd, List.length_cons]
      omega
    have gy1 : 1 ≤ gs n s upB (buck s t) (s y) := by unfold gs; omega
    have gn : ∀ c, s y ≠ c → gs n s upB (buck s (y :: t)) c = gs n s upB (buck s t) c := by
      intro c h
      unfold gs
      rw [buck_cons_ne s t h]
    refine ⟨fun c => ?_, fun c r x h => ?_, fun j h => ?_⟩
    · show upd (place s t (fun _ => -1, tl n s)).2 (s y) ((place s t (fun _ => -1, tl n s)).2 (s y) - 1) c = _
      by_cases e : c = s y
      · subst e; rw [upd_same, i1, gy]
      · rw [upd_ne _ _ e, i1, gn c (Ne.symm e)]
    · show upd (place s t (fun _ => -1, tl n s)).1 ((place s t (fun _ => -1, tl n s)).2 (s y) - 1) (y : Int) _ = _
      rw [i1]
      by_cases e : s y = c
      · subst e
        rw [gy]
        rw [zcd] at h
        cases r with
        | zero =>
          rw [Nat.add_zero, upd_same]
          simp at h; subst h; rfl
        | succ r =>
          rw [upd_ne _ _ (by omega)]
          rw [List.getElem?_cons_succ] at h
          have := i2 (s y) r x h
          rw [show gs n s upB (buck s t) (s y) - 1 + (r + 1) = gs n s upB (buck s t) (s y) + r from by omega]
          exact this
      · rw [gn c e]
        rw [buck_cons_ne s t e] at h
        rw [upd_ne]
        · exact i2 c r x h
        · have h1 := get_lt h
          have h2 := hct c
          intro e2
          have k1 : gs n s upB (buck s t) c = hd n s upB c + sz n s c - (buck s t c).length := rfl
          have k2 : gs n s upB (buck s t) (s y) = hd n s upB (s y) + sz n s (s y) - (buck s t (s y)).length := rfl
          rcases Nat.lt_or_ge c (s y) with hlt | hge
          · have := up_mono (n := n) (s := s) hlt; omega
          · have := up_mono (n := n) (s := s) (show s y < c by omega); omega
    · show upd (place s t (fun _ => -1, tl n s)).1 ((place s t (fun _ => -1, tl n s)).2 (s y) - 1) (y : Int) j = _
      rw [i1, upd_ne]
      · refine i3 j (fun c r hr => ?_)
        by_cases e : s y = c
        · subst e
          have := h (s y) (r + 1) (by rw [zcd, List.length_cons]; omega)
          rw [gy] at this
          omega
        · have := h c r (by rw [buck_cons_ne s t e]; exact hr)
          rw [gn c e] at this
          exact this
      · have := h (s y) 0 (by rw [zcd, List.length_cons]; omega)
        rw [gy] at this
        exact this
section
variable {n : Nat} {s : Nat → Nat} {ls : Nat → Bool} {T : List Nat}
def indL (n : Nat) (ls : Nat → Bool) (i : Nat) : Bool := decide (i + 1 < n) && !ls i
def indS (n : Nat) (ls : Nat → Bool) (i : Nat) : Bool := decide (i + 1 < n) && ls i
theorem zb3 {i : Nat} : indL n ls i = true ↔ i + 1 < n ∧ ls i = false := by simp [indL]
theorem zca {i : Nat} : indS n ls i = true ↔ i + 1 < n ∧ ls i = true := by simp [indS]
theorem tn_iff {i : Nat} : tn ls i = true ↔ 0 < i ∧ ls i = true ∧ ls (i - 1) = false := by simp [tn, and_assoc]
theorem Txt.l (h : Txt n s ls) {i : Nat} (hi : i + 1 < n) (hl : ls i = false) : s (i + 1) ≤ s i ∧ (s (i + 1) = s i → ls (i + 1) = false) := by
  rw [h.lr i hi] at hl
  simp only [Bool.or_eq_false_iff, decide_eq_false_iff_not, Bool.and_eq_false_iff] at hl
  refine ⟨by omega, fun e => ?_⟩
  rcases hl.2 with h1 | h1
  · exact absurd e.symm h1
  · exact h1
theorem Txt.t (h : Txt n s ls) {i : Nat} (hi : i + 1 < n) (hl : ls i = true) : s i ≤ s (i + 1) ∧ (s (i + 1) = s i → ls (i + 1) = true) := by
  rw [h.lr i hi] at hl
  simp only [Bool.or_eq_true, decide_eq_true_eq, Bool.and_eq_true] at hl
  rcases hl with h1 | h1
  · exact ⟨by omega, by omega⟩
  · exact ⟨by omega, fun _ => h1.2⟩
theorem Turns.last (h : Txt n s ls) (hT : Turns n ls T) : n - 1 ∈ T := by
  have h2 := h.n2
  refine (hT.mem _).2 ⟨by omega, tn_iff.2 ⟨by omega, h.ll, ?_⟩⟩
  have hp := h.pos (n - 1 - 1) (by omega)
  have hl := h.last
  have he : n - 1 - 1 + 1 = n - 1 := by omega
  cases hc : ls (n - 1 - 1) with
  | false => rfl
  | true =>
    have := (h.t (i := n - 1 - 1) (by omega) hc).1
    rw [he] at this
    omega
def place0 (n : Nat) (s : Nat → Nat) (T : List Nat) : Nat → Int := (place s T (fun _ => -1, tl n s)).1
theorem Turns.lt (hT : Turns n ls T) : ∀ x ∈ T, x < n := fun x hx => ((hT.mem x).1 hx).1
theorem passL (h : Txt n s ls) (hT : Turns n ls T) : PassOk n s upB (indL n ls) (buck s T) (place0 n s T) := by
  obtain ⟨p1, p2, p3⟩ := place_ok (n := n) (s := s) T hT.nd hT.lt
  have hm : ∀ c x, x ∈ buck s T c ↔ x ∈ T ∧ s x = c := by intro c x; simp [buck]
  refine ⟨fun c d h1 => ?_, fun c d e h1 h2 => ?_, fun c d h1 h2 => ?_, fun i hi => (zb3.1 hi).1, fun i hi => ?_, fun i hi hg e => ?_, fun i hi => ?_, fun c x hx => ?_, fun c => hT.nd.filter _, p2, fun j _ hj i e => ?_⟩
  · have : c < d := of_decide_eq_true h1
    exact decide_eq_false (by omega)
  · have : c < d := of_decide_eq_true h1
    have : d < e := of_decide_eq_true h2
    exact decide_eq_true (by omega)
  · have : ¬ c < d := of_decide_eq_false h2
    exact decide_eq_true (by omega)
  · have := (h.l (zb3.1 hi).1 (zb3.1 hi).2).1
    exact decide_eq_false (by omega)
  · have h1 := (h.l (zb3.1 hi).1 (zb3.1 hi).2).2 e.symm
    have h2 := tn_iff.1 ((hT.mem _).1 ((hm _ _).1 hg).1).2
    rw [h1] at h2
    exact absurd h2.2.1 (by decide)
  · have hi := zb3.1 hi
    cases hc : ls (i + 1) with
    | true => exact .inr ((hm _ _).2 ⟨(hT.mem _).2 ⟨hi.1, tn_iff.2 ⟨by omega, hc, hi.2⟩⟩, rfl⟩)
    | false =>
      refine .inl (zb3.2 ⟨?_, hc⟩)
      rcases Nat.lt_or_ge (i + 1 + 1) n with h1 | h1
      · exact h1
      · have : i + 1 = n - 1 := by omega
        rw [this, h.ll] at hc
        cases hc
  · have hx := (hm c x).1 hx
    have h1 := (hT.mem x).1 hx.1
    refine ⟨h1.1, hx.2, ?_⟩
    have := (tn_iff.1 h1.2).2.1
    simp [indL, this]
  · have : place0 n s T j = -1 := p3 j hj
    rw [this] at e
    omega
def FL (n : Nat) (s : Nat → Nat) (ls : Nat → Bool) (T : List Nat) : Nat → List Nat := (prun n s upB (indL n ls) (place0 n s T) n).2
def AL (n : Nat) (s : Nat → Nat) (ls : Nat → Bool) (T : List Nat) : Nat → Int := (prun n s upB (indL n ls) (place0 n s T) n).1
theorem FL_mem (h : Txt n s ls) (hT : Turns n ls T) (c i : Nat) : i ∈ FL n s ls T c ↔ (i + 1 < n ∧ ls i = false) ∧ s i = c := by
  have := run_mem (passL h hT) c i
  rw [zb3] at this
  exact this
def GS (n : Nat) (s : Nat → Nat) (ls : Nat → Bool) (T : List Nat) (c : Nat) : List Nat := if c = 0 then [n - 1] else (FL n s ls T c).reverse
def BS (n : Nat) (s : Nat → Nat) (ls : Nat → Bool) (T : List Nat) (j : Nat) : Int := AL n s ls T (n - 1 - j)
theorem dn_hd (c : Nat) : hd n s dnB c + (hd n s upB c + sz n s c) = n := by
  have h1 : cnt n (fun i => decide (s i ≤ c)) = hd n s upB c + sz n s c := by
    refine cnt_part (fun i _ h1 h2 => ?_) (fun i _ => ?_)
    · have : s i < c := of_decide_eq_true h1
      have : s i = c := by simpa using h2
      omega
    · simp [upB]; omega
  have h2 : cnt n (fun _ => true) = hd n s dnB c + cnt n (fun i => decide (s i ≤ c)) := by
    refine cnt_part (fun i _ h1 h2 => ?_) (fun i _ => ?_)
    · have : c < s i := of_decide_eq_true h1
      have : s i ≤ c := of_decide_eq_true h2
      omega
    · simp [dnB]; omega
  have h3 : cnt n (fun _ => true) = n := by
    unfold cnt
    rw [List.filter_eq_self.2 (fun _ _ => rfl), List.length_range]
  omega
theorem FL0 (h : Txt n s ls) (hT : Turns n ls T) : FL n s ls T 0 = [] := by
  refine List.eq_nil_iff_forall_not_mem.2 (fun i hi => ?_)
  have := (FL_mem h hT 0 i).1 hi
  have h2 := h.pos i this.1.1
  omega
theorem hd0 : hd n s upB 0 = 0 := by
  have : (List.range n).filter (fun i => upB (s i) 0) = [] := by
    refine List.filter_eq_nil_iff.2 (fun i _ => ?_)
    simp [upB]
  simp [hd, cnt, this]
theorem sz0 (h : Txt n s ls) : sz n s 0 = 1 := by
  have h2 := h.n2
  refine Nat.le_antisymm ?_ ?_
  · refine cnt_ge_list (F := [n - 1]) (fun x hx hq => ?_)
    have hq : s x = 0 := by simpa using hq
    rcases Nat.lt_or_ge (x + 1) n with h1 | h1
    · have := h.pos x h1; omega
    · rw [List.mem_singleton]; omega
  · refine cnt_le_list (F := [n - 1]) (by simp) (fun x hx => ?_)
    rw [List.mem_singleton.1 hx]
    exact ⟨by omega, by simp [h.last]⟩
theorem AL_at (h : Txt n s ls) (hT : Turns n ls T) (c r x : Nat) (hr : (FL n s ls T c)[r]? = some x) : AL n s ls T (hd n s upB c + r) = (x : Int) :=
  (inv_run (passL h hT) n (Nat.le_refl _)).fB c r x hr
theorem AL_else (h : Txt n s ls) (hT : Turns n ls T) (j : Nat) (hj : ∀ c r, r < (FL n s ls T c).length → j ≠ hd n s upB c + r) : AL n s ls T j = -1 ∨ ∃ x, x ∈ T ∧ AL n s ls T j = (x : Int) := by
  have e : AL n s ls T j = place0 n s T j := (inv_run (passL h hT) n (Nat.le_refl _)).oB j hj
  obtain ⟨p1, p2, p3⟩ := place_ok (n := n) (s := s) T hT.nd hT.lt
  rw [e]
  by_cases hg : ∃ c r, r < (buck s T c).length ∧ j = gs n s upB (buck s T) c + r
  · obtain ⟨c, r, hr, rfl⟩ := hg
    refine .inr ⟨_, (List.mem_filter.1 (List.getElem_mem hr)).1, p2 c r _ (List.getElem?_eq_getElem hr)⟩
  · exact .inl (p3 j (fun c r hr e2 => hg ⟨c, r, hr, e2⟩))
theorem AL_zero (h : Txt n s ls) (hT : Turns n ls T) : AL n s ls T 0 = ((n - 1 : Nat) : Int) := by
  have hi := inv_run (passL h hT) n (Nat.le_refl _)
  have hb : (buck s T 0)[0]? = some (n - 1) := by
    have hm : n - 1 ∈ buck s T 0 := by simp [buck, Turns.last h hT, h.last]
    have hl := buck_len (s := s) hT.nd hT.lt 0
    rw [sz0 h] at hl
    cases hb : buck s T 0 with
    | nil => rw [hb] at hm; cases hm
    | cons a t =>
      rw [hb] at hm hl
      rw [List.length_cons] at hl
      have : t = [] := List.eq_nil_of_length_eq_zero (by omega)
      subst this
      rw [List.mem_singleton.1 hm]
      rfl
  have hl := buck_len (s := s) hT.nd hT.lt 0
  have h1 := ent_val (passL h hT) hi (.inr ⟨0, 0, hb, rfl⟩)
  have e : gs n s upB (buck s T) 0 + 0 = 0 := by
    have := get_lt hb
    unfold gs
    rw [hd0, sz0 h]
    omega
  rw [e] at h1
  exact h1
theorem passS (h : Txt n s ls) (hT : Turns n ls T) : PassOk n s dnB (indS n ls) (GS n s ls T) (BS n s ls T) := by
  have h2 := h.n2
  have hpl := passL h hT
  have hil := inv_run hpl n (Nat.le_refl _)
  have hcap := fun c => caps hpl hil c
  have hm : ∀ c x, x ∈ GS n s ls T c → x < n ∧ s x = c ∧ (x = n - 1 ∨ (x + 1 < n ∧ ls x = false)) := by
    intro c x hx
    unfold GS at hx
    split at hx
    · rename_i e
      rw [List.mem_singleton.1 hx, e]
      exact ⟨by omega, h.last, .inl rfl⟩
    · have := (FL_mem h hT c x).1 (List.mem_reverse.1 hx)
      exact ⟨by omega, this.2, .inr this.1⟩
  have hlen : ∀ c, (GS n s ls T c).length ≤ sz n s c := by
    intro c
    unfold GS
    split
    · rename_i e; subst e; rw [sz0 h]; simp
    · have : (FL n s ls T c).length + (buck s T c).length ≤ sz n s c := hcap c
      rw [List.length_reverse]; omega
  have hat : ∀ (c r x : Nat), (GS n s ls T c)[r]? = some x → BS n s ls T (gs n s dnB (GS n s ls T) c + r) = (x : Int) := by
    intro c r x hr
    have h3 := get_lt hr
    have h4 := hlen c
    have h5 := dn_hd (n := n) (s := s) c
    unfold BS gs
    by_cases e : c = 0
    · subst e
      rw [sz0 h] at h4 h5 ⊢
      rw [hd0] at h5
      have e1 : GS n s ls T 0 = [n - 1] := by simp [GS]
      rw [e1] at hr h3 ⊢
      rw [List.length_singleton] at h3
      obtain rfl : r = 0 := by omega
      rw [List.length_singleton, show n - 1 - (hd n s dnB 0 + 1 - 1 + 0) = 0 from by omega, AL_zero h hT]
      simp at hr
      rw [hr]
    · have e1 : GS n s ls T c = (FL n s ls T c).reverse := by simp [GS, e]
      rw [e1] at hr h3 h4 ⊢
      rw [List.length_reverse] at h3 h4 ⊢
      rw [List.getElem?_reverse h3] at hr
      have := AL_at h hT c _ x hr
      rw [← this]
      congr 1
      omega
  have hslot : ∀ j, j < n → (∀ c r, r < (GS n s ls T c).length → j ≠ gs n s dnB (GS n s ls T) c + r) → ∀ c r, r < (FL n s ls T c).length → n - 1 - j ≠ hd n s upB c + r := by
    intro j hj hne c r hr e
    have h4 := hlen c
    have h5 := dn_hd (n := n) (s := s) c
    by_cases ec : c = 0
    · subst ec
      rw [FL0 h hT] at hr
      simp at hr
    · have e1 : GS n s ls T c = (FL n s ls T c).reverse := by simp [GS, ec]
      rw [e1, List.length_reverse] at h4
      refine hne c ((FL n s ls T c).length - 1 - r) (by rw [e1, List.length_reverse]; omega) ?_
      unfold gs
      rw [e1, List.length_reverse]
      omega
  refine ⟨fun c d h1 => ?_, fun c d e h1 h2 => ?_, fun c d h1 h2 => ?_, fun i hi => (zca.1 hi).1, fun i hi => ?_, fun i hi hg e => ?_, fun i hi => ?_, fun c x hx => ?_, fun c => ?_, hat, fun j hjn hj i e => ?_⟩
  · have : d < c := of_decide_eq_true h1
    exact decide_eq_false (by omega)
  · have : d < c := of_decide_eq_true h1
    have : e < d := of_decide_eq_true h2
    exact decide_eq_true (by omega)
  · have : ¬ d < c := of_decide_eq_false h2
    exact decide_eq_true (by omega)
  · have := (h.t (zca.1 hi).1 (zca.1 hi).2).1
    exact decide_eq_false (by omega)
  · have hi := zca.1 hi
    have h1 := (h.t hi.1 hi.2).2 e.symm
    rcases (hm _ _ hg).2.2 with h3 | h3
    · have := h.pos i hi.1
      rw [e, h3, h.last] at this
      omega
    · rw [h1] at h3
      exact absurd h3.2 (by decide)
  · have hi := zca.1 hi
    have hs := (h.t hi.1 hi.2).1
    have hp := h.pos i hi.1
    have hne : i + 1 ≠ n - 1 := by
      intro e
      have := h.last
      rw [← e] at this
      omega
    cases hc : ls (i + 1) with
    | true => exact .inl (zca.2 ⟨by omega, hc⟩)
    | false =>
      refine .inr ?_
      have hp2 := h.pos (i + 1) (by omega)
      unfold GS
      rw [if_neg (by omega)]
      exact List.mem_reverse.2 ((FL_mem h hT _ _).2 ⟨⟨by omega, hc⟩, rfl⟩)
  · have := hm c x hx
    refine ⟨this.1, this.2.1, ?_⟩
    rcases this.2.2 with h3 | h3
    · simp [indS]; omega
    · simp [indS, h3.2]
  · unfold GS
    split
    · simp
    · exact (List.reverse_perm _).nodup_iff.2 (hil.f_nd c)
  · rcases AL_else h hT (n - 1 - j) (hslot j hjn hj) with h3 | ⟨x, h3, h4⟩
    · unfold BS at e
      rw [h3] at e
      omega
    · unfold BS at e
      rw [h4] at e
      obtain rfl : x = i + 1 := by omega
      have := tn_iff.1 ((hT.mem _).1 h3).2
      have h5 : ls i = false := this.2.2
      simp [indS, h5]
def AS (n : Nat) (s : Nat → Nat) (ls : Nat → Bool) (T : List Nat) (j : Nat) : Int := (prun n s dnB (indS n ls) (BS n s ls T) n).1 (n - 1 - j)
structure Rels (n : Nat) (s : Nat → Nat) (ls : Nat → Bool) (T : List Nat) (r1 r2 : Nat → Nat → Prop) : Prop where
  a1 : ∀ i j, i + 1 < n → j + 1 < n → ls i = false → ls j = false → s i = s j → r1 (i + 1) (j + 1) → r1 i j
  a2 : ∀ i j, i + 1 < n → j < n → ls i = false → ls j = true → s i = s j → r1 i j
  a3 : ∀ i j, i < n → j < n → s i < s j → r1 i j
  a4 : ∀ c, (buck s T c).Pairwise r1
  b1 : ∀ i j, i + 1 < n → j + 1 < n → ls i = true → ls j = true → s i = s j → r2 (i + 1) (j + 1) → r2 i j
  b2 : ∀ i j, i + 1 < n → j < n → ls i = false → ls j = true → s i = s j → r2 i j
  b3 : ∀ i j, i < n → j < n → s i < s j → r2 i j
  b4 : ∀ i j, i + 1 < n → j + 1 < n → ls i = false → ls j = false → r1 i j → r2 i j
theorem Rels.l {r1 r2 : Nat → Nat → Prop} (h : Txt n s ls) (hT : Turns n ls T) (hr : Rels n s ls T r1 r2) : RelOk n s upB (indL n ls) (buck s T) r1 := by
  refine ⟨fun i j hi hj e hr1 => hr.a1 i j (zb3.1 hi).1 (zb3.1 hj).1 (zb3.1 hi).2 (zb3.1 hj).2 e hr1, fun i j hi hj => ?_, fun i j hi hj hl => hr.a3 i j hi hj (of_decide_eq_true hl), hr.a4⟩
  have hj2 := List.mem_filter.1 hj
  have h1 := (hT.mem j).1 hj2.1
  have h2 : s j = s i := by simpa using hj2.2
  exact hr.a2 i j (zb3.1 hi).1 h1.1 (zb3.1 hi).2 (tn_iff.1 h1.2).2.1 h2.symm
theorem Rels.t {r1 r2 : Nat → Nat → Prop} (h : Txt n s ls) (hT : Turns n ls T) (hr : Rels n s ls T r1 r2) : RelOk n s dnB (indS n ls) (GS n s ls T) (fun x y => r2 y x) := by
  refine ⟨fun i j hi hj e hr1 => hr.b1 j i (zca.1 hj).1 (zca.1 hi).1 (zca.1 hj).2 (zca.1 hi).2 e.symm hr1, fun i j hi hj => ?_, fun i j hi hj hl => hr.b3 j i hj hi (of_decide_eq_true hl), fun c => ?_⟩
  · have hi := zca.1 hi
    have hp := h.pos i hi.1
    unfold GS at hj
    rw [if_neg (by omega)] at hj
    have h1 := (FL_mem h hT _ _).1 (List.mem_reverse.1 hj)
    exact hr.b2 j i h1.1.1 (by omega) h1.1.2 hi.2 h1.2
  · unfold GS
    split
    · simp
    · rw [List.pairwise_reverse]
      have h1 := rel_run (passL h hT) (hr.l h hT) n (Nat.le_refl _) c
      refine List.Pairwise.imp_of_mem (fun {a b} ha hb hab => ?_) h1
      have ha := (FL_mem h hT c a).1 ha
      have hb := (FL_mem h hT c b).1 hb
      exact hr.b4 a b ha.1.1 hb.1.1 ha.1.2 hb.1.2 hab
theorem range_all {n : Nat} {f : Nat → Nat} (hf : ∀ i, i < n → f i < n) (hinj : ∀ i j, i < n → j < n → f i = f j → i = j) (j : Nat) (hj : j < n) : ∃ i, i < n ∧ f i = j := by
  apply Classical.byContradiction
  intro hne
  have h1 : ((List.range n).map f).Nodup := by
    rw [List.nodup_iff_pairwise_ne, List.pairwise_map]
    refine List.Pairwise.imp_of_mem (fun {a b} ha hb hab e => hab (hinj a b (List.mem_range.1 ha) (List.mem_range.1 hb) e)) (List.nodup_range)
  have h2 : (List.range n).map f ⊆ (List.range n).erase j := by
    intro x hx
    obtain ⟨i, hi, rfl⟩ := List.mem_map.1 hx
    have hi := List.mem_range.1 hi
    exact (List.mem_erase_of_ne (fun e => hne ⟨i, hi, e⟩)).2 (List.mem_range.2 (hf i hi))
  have h3 := List.Nodup.length_le_of_subset h1 h2
  rw [List.length_map, List.length_range, List.length_erase_of_mem (List.mem_range.2 hj), List.length_range] at h3
  omega
theorem AS_ok (h : Txt n s ls) (hT : Turns n ls T) : (∀ x, x < n → ∃ j, j < n ∧ AS n s ls T j = (x : Int)) ∧ (∀ j, j < n → ∃ x, x < n ∧ AS n s ls T j = (x : Int)) ∧ (∀ j j' x : Nat, j < n → j' < n → AS n s ls T j = (x : Int) → AS n s ls T j' = (x : Int) → j = j') ∧
    ∀ r1 r2 : Nat → Nat → Prop, Rels n s ls T r1 r2 → ∀ j j' x y : Nat, j < j' → j' < n → AS n s ls T j = (x : Int) → AS n s ls T j' = (y : Int) → r2 x y := by
  have hp := passS h hT
  have hi := inv_run hp n (Nat.le_refl _)
  have h2 := h.n2
  have hent : ∀ x, x < n → ∃ j, j < n ∧ Entry n s dnB (GS n s ls T) (prun n s dnB (indS n ls) (BS n s ls T) n).2 j x := by
    intro x hx
    have : ∃ j, Entry n s dnB (GS n s ls T) (prun n s dnB (indS n ls) (BS n s ls T) n).2 j x := by
      have hG : x ∈ GS n s ls T (s x) → ∃ j, Entry n s dnB (GS n s ls T) (prun n s dnB (indS n ls) (BS n s ls T) n).2 j x := by
        intro hm
        obtain ⟨r, hr, e⟩ := List.mem_iff_getElem.1 hm
        exact ⟨_, .inr ⟨_, r, List.getElem?_eq_some_iff.2 ⟨hr, e⟩, rfl⟩⟩
      rcases Nat.lt_or_ge (x + 1) n with h1 | h1
      · cases hl : ls x with
        | true =>
          have := (run_mem hp (s x) x).2 ⟨zca.2 ⟨h1, hl⟩, rfl⟩
          obtain ⟨r, hr, e⟩ := List.mem_iff_getElem.1 this
          exact ⟨_, .inl ⟨_, r, List.getElem?_eq_some_iff.2 ⟨hr, e⟩, rfl⟩⟩
        | false =>
          have hp := h.pos x h1
          refine hG ?_
          unfold GS
          rw [if_neg (by omega)]
          exact List.mem_reverse.2 ((FL_mem h hT _ _).2 ⟨⟨h1, hl⟩, rfl⟩)
      · have : x = n - 1 := by omega
        subst this
        refine hG ?_
        rw [h.last]
        simp [GS]
    obtain ⟨j, hj⟩ := this
    have h4 := ent_at hp hi hj
    have h5 := hd_n hp (s x)
    exact ⟨j, by omega, hj⟩
  have hch : ∃ f : Nat → Nat, ∀ x, x < n → f x < n ∧ Entry n s dnB (GS n s ls T) (prun n s dnB (indS n ls) (BS n s ls T) n).2 (f x) x := by
    refine ⟨fun x => if hx : x < n then Classical.choose (hent x hx) else 0, fun x hx => ?_⟩
    simp only [hx, dif_pos]
    exact Classical.choose_spec (hent x hx)
  obtain ⟨f, hf⟩ := hch
  have hval : ∀ x, x < n → AS n s ls T (n - 1 - f x) = (x : Int) := by
    intro x hx
    unfold AS
    rw [show n - 1 - (n - 1 - f x) = f x from by have := (hf x hx).1; omega]
    exact ent_val hp hi (hf x hx).2
  have hsur := range_all (n := n) (f := f) (fun i h => (hf i h).1) (fun i j h1 h2 e => by
    have e1 := ent_val hp hi (hf i h1).2
    have e2 := ent_val hp hi (hf j h2).2
    rw [e] at e1
    rw [e1] at e2
    omega)
  have hinv : ∀ j x : Nat, j < n → AS n s ls T j = (x : Int) → x < n ∧ f x = n - 1 - j := by
    intro j x hj e
    obtain ⟨y, hy, ey⟩ := hsur (n - 1 - j) (by omega)
    have := hval y hy
    rw [ey, show n - 1 - (n - 1 - j) = j from by omega, e] at this
    obtain rfl : x = y := by omega
    exact ⟨hy, ey⟩
  refine ⟨fun x hx => ⟨n - 1 - f x, by omega, hval x hx⟩, fun j hj => ?_, fun j j' x hj hj' e e' => ?_, fun r1 r2 hr j j' x y hjj hj' e e' => ?_⟩
  · obtain ⟨y, hy, ey⟩ := hsur (n - 1 - j) (by omega)
    refine ⟨y, hy, ?_⟩
    have := hval y hy
    rw [ey, show n - 1 - (n - 1 - j) = j from by omega] at this
    exact this
  · have h3 := hinv j x hj e
    have h4 := hinv j' x hj' e'
    omega
  · have h3 := hinv j x (by omega) e
    have h4 := hinv j' y hj' e'
    have hx := (hf x h3.1).2
    have hy := (hf y h4.1).2
    exact ent_rel hp hi (hr.t h hT) (rel_run hp (hr.t h hT) n (Nat.le_refl _)) hy hx (by omega)
end
end Go.Proofs.YtdifgiceallpiaaDoor.Sais
/- The induced sort, plainly: words. -/
namespace Go.Proofs.YtdifgiceallpiaaDoor.Sais
section
variable (n : Nat) (s : Nat → Nat) (ls : Nat → Bool)
def lt_ (i : Nat) : Nat := 2 * s i + (ls i).toNat
def wF : Nat → Nat → List Nat
  | 0, i => [lt_ s ls i]
  | d + 1, i => lt_ s ls i :: (if tn ls (i + 1) then [lt_ s ls (i + 1)] else wF d (i + 1))
def W (i : Nat) : List Nat := wF s ls (n - 1 - i) i
def V (i : Nat) : List Nat := if tn ls i then [lt_ s ls i] else W n s ls i
def slt (i j : Nat) : Prop := ∃ k, i + k < n ∧ j + k < n ∧ (∀ m, m < k → s (i + m) = s (j + m)) ∧ s (i + k) < s (j + k)
end
section
variable {n : Nat} {s : Nat → Nat} {ls : Nat → Bool} {T : List Nat}
theorem zco {i : Nat} (h : i + 1 < n) : W n s ls i = lt_ s ls i :: V n s ls (i + 1) := by
  unfold W V
  rw [show n - 1 - i = (n - 1 - (i + 1)) + 1 from by omega, wF]
  rfl
theorem W_end {i : Nat} (h : n ≤ i + 1) : W n s ls i = [lt_ s ls i] := by
  unfold W
  rw [show n - 1 - i = 0 from by omega, wF]
theorem W_head (i : Nat) : ∃ t, W n s ls i = lt_ s ls i :: t := by
  rcases Nat.lt_or_ge (i + 1) n with h | h
  · exact ⟨_, zco h⟩
  · exact ⟨_, W_end h⟩
theorem V_head (i : Nat) : ∃ t, V n s ls i = lt_ s ls i :: t := by
  unfold V
  split
  · exact ⟨_, rfl⟩
  · exact W_head i
theorem V_not {i : Nat} (h : tn ls i = false) : V n s ls i = W n s ls i := by simp [V, h]
theorem V_tn {i : Nat} (h : tn ls i = true) : V n s ls i = [lt_ s ls i] := by simp [V, h]
theorem tn_l {i : Nat} (h : ls i = false) : tn ls i = false := by simp [tn, h]
theorem tn_s {i : Nat} (h : ls i = true) : tn ls (i + 1) = false := by simp [tn, h]
theorem lt_lt {i j : Nat} (h : s i < s j) : lt_ s ls i < lt_ s ls j := by
  unfold lt_
  cases ls i <;> cases ls j <;> simp <;> omega
theorem lt_ty {i j : Nat} (h : s i = s j) (hi : ls i = false) (hj : ls j = true) : lt_ s ls i < lt_ s ls j := by
  unfold lt_
  simp [hi, hj, h]
theorem lt_eq {i j : Nat} (h : lt_ s ls i = lt_ s ls j) : s i = s j ∧ ls i = ls j := by
  unfold lt_ at h
  cases hi : ls i <;> cases hj : ls j <;> simp [hi, hj] at h ⊢ <;> omega
theorem lt_inv {i j : Nat} (h : lt_ s ls i < lt_ s ls j) : s i < s j ∨ (s i = s j ∧ ls i = false ∧ ls j = true) := by
  unfold lt_ at h
  cases hi : ls i <;> cases hj : ls j <;> simp [hi, hj] at h ⊢ <;> omega
theorem head_le {a b : Nat} {t u : List Nat} (h : a < b) : a :: t ≤ b :: u := List.cons_le_cons_iff.2 (.inl h)
theorem tail_le {a : Nat} {t u : List Nat} (h : t ≤ u) : a :: t ≤ a :: u := List.cons_le_cons_iff.2 (.inr ⟨rfl, h⟩)
theorem lt_same {i j : Nat} (h : s i = s j) (hl : ls i = ls j) : lt_ s ls i = lt_ s ls j := by simp [lt_, h, hl]
theorem rels_word (h : Txt n s ls) (hT : Turns n ls T) : Rels n s ls T (fun x y => V n s ls x ≤ V n s ls y) (fun x y => W n s ls x ≤ W n s ls y) := by
  have hh : ∀ i j, lt_ s ls i < lt_ s ls j → V n s ls i ≤ V n s ls j := by
    intro i j hl
    obtain ⟨t, ht⟩ := V_head (n := n) (s := s) (ls := ls) i
    obtain ⟨u, hu⟩ := V_head (n := n) (s := s) (ls := ls) j
    rw [ht, hu]
    exact head_le hl
  have hw : ∀ i j, lt_ s ls i < lt_ s ls j → W n s ls i ≤ W n s ls j := by
    intro i j hl
    obtain ⟨t, ht⟩ := W_head (n := n) (s := s) (ls := ls) i
    obtain ⟨u, hu⟩ := W_head (n := n) (s := s) (ls := ls) j
    rw [ht, hu]
    exact head_le hl
  refine ⟨fun i j hi hj li lj e hr => ?_, fun i j _ _ li lj e => hh i j (lt_ty e li lj), fun i j _ _ e => hh i j (lt_lt e), fun c => ?_, fun i j hi hj li lj e hr => ?_, fun i j _ _ li lj e => hw i j (lt_ty e li lj), fun i j _ _ e => hw i j (lt_lt e), fun i j _ _ li lj hr => ?_⟩
  · rw [V_not (tn_l li), V_not (tn_l lj), zco hi, zco hj, lt_same e (li.trans lj.symm)]
    exact tail_le hr
  · refine List.Pairwise.imp_of_mem (fun {a b} ha hb _ => ?_) (List.pairwise_of_forall (R := fun _ _ => True) (fun _ _ => trivial))
    have ha := List.mem_filter.1 ha
    have hb := List.mem_filter.1 hb
    have ta := ((hT.mem a).1 ha.1).2
    have tb := ((hT.mem b).1 hb.1).2
    have ea : s a = c := by simpa using ha.2
    have eb : s b = c := by simpa using hb.2
    rw [V_tn ta, V_tn tb, lt_same (ea.trans eb.symm) ((tn_iff.1 ta).2.1.trans (tn_iff.1 tb).2.1.symm)]
    exact List.le_refl _
  · rw [zco hi, zco hj, lt_same e (li.trans lj.symm), V_not (tn_s li), V_not (tn_s lj)]
    exact tail_le hr
  · rw [V_not (tn_l li), V_not (tn_l lj)] at hr
    exact hr
theorem slt_shift {x y d : Nat} (h : ∀ m, m < d → s (x + m) = s (y + m)) (hl : slt n s (x + d) (y + d)) : slt n s x y := by
  obtain ⟨k, h1, h2, h3, h4⟩ := hl
  refine ⟨d + k, by omega, by omega, fun m hm => ?_, by rw [← Nat.add_assoc, ← Nat.add_assoc]; exact h4⟩
  rcases Nat.lt_or_ge m d with hd | hd
  · exact h m hd
  · have := h3 (m - d) (by omega)
    rw [Nat.add_assoc, Nat.add_assoc, show d + (m - d) = m from by omega] at this
    exact this
theorem slt_cons {x y : Nat} (h : s x = s y) (hl : slt n s (x + 1) (y + 1)) : slt n s x y :=
  slt_shift (d := 1) (fun m hm => by obtain rfl : m = 0 := by omega
                                     exact h) hl
theorem slt_lt {x y : Nat} (hx : x < n) (hy : y < n) (h : s x < s y) : slt n s x y := ⟨0, hx, hy, by simp, h⟩
theorem slt_ty (h : Txt n s ls) : ∀ d i j, i + d = n → i + 1 < n → j < n → ls i = false → ls j = true → s i = s j → slt n s i j := by
  intro d
  induction d with
  | zero => intro i j hd; omega
  | succ d ih =>
    intro i j hd hi hj li lj e
    have hp := h.pos i hi
    have hj1 : j + 1 < n := by
      rcases Nat.lt_or_ge (j + 1) n with h1 | h1
      · exact h1
      · have : j = n - 1 := by omega
        rw [this, h.last] at e
        omega
    have l1 := h.l hi li
    have l2 := h.t hj1 lj
    rcases Nat.lt_or_ge (s (i + 1)) (s (j + 1)) with h1 | h1
    · exact slt_cons e (slt_lt hi hj1 h1)
    · have e1 : s (i + 1) = s i := by omega
      have e2 : s (j + 1) = s j := by omega
      have k1 := l1.2 e1
      refine slt_cons e (ih (i + 1) (j + 1) (by omega) ?_ hj1 k1 (l2.2 e2) (by omega))
      rcases Nat.lt_or_ge (i + 1 + 1) n with h2 | h2
      · exact h2
      · have : i + 1 = n - 1 := by omega
        rw [this, h.ll] at k1
        cases k1
theorem rels_slt (h : Txt n s ls) (hs : ∀ c, (buck s T c).Pairwise (slt n s)) : Rels n s ls T (slt n s) (slt n s) :=
  ⟨fun _ _ _ _ _ _ e hr => slt_cons e hr, fun i j hi hj li lj e => slt_ty h (n - i) i j (by omega) hi hj li lj e, fun _ _ hi hj e => slt_lt hi hj e, hs,
   fun _ _ _ _ _ _ e hr => slt_cons e hr, fun i j hi hj li lj e => slt_ty h (n - i) i j (by omega) hi hj li lj e, fun _ _ hi hj e => slt_lt hi hj e, fun _ _ _ _ _ _ hr => hr⟩
theorem lt_slt (h : Txt n s ls) {x y : Nat} (hx : x < n) (hy : y < n) (hl : lt_ s ls x < lt_ s ls y) : slt n s x y := by
  rcases lt_inv hl with h1 | ⟨h1, h2, h3⟩
  · exact slt_lt hx hy h1
  · refine slt_ty h (n - x) x y (by omega) ?_ hy h2 h3 h1
    rcases Nat.lt_or_ge (x + 1) n with h4 | h4
    · exact h4
    · have : x = n - 1 := by omega
      rw [this, h.ll] at h2
      cases h2
theorem lt_last (h : Txt n s ls) : lt_ s ls (n - 1) = 1 := by simp [lt_, h.last, h.ll]
theorem lt_big (h : Txt n s ls) {x : Nat} (hx : x + 1 < n) : 2 ≤ lt_ s ls x := by
  have := h.pos x hx
  unfold lt_
  omega
theorem W_slt (h : Txt n s ls) : ∀ d x y, x + d = n → x < n → y < n → W n s ls x < W n s ls y → slt n s x y := by
  intro d
  induction d with
  | zero =>
    intro x y hd hx
    omega
  | succ d ih =>
    intro x y hd hx hy hw
    rcases Nat.lt_or_ge (y + 1) n with hy1 | hy1
    · rcases Nat.lt_or_ge (x + 1) n with hx1 | hx1
      · rw [zco hx1, zco hy1, List.cons_lt_cons_iff] at hw
        rcases hw with hw | ⟨he, hw⟩
        · exact lt_slt h (by omega) hy hw
        · have e := lt_eq he
          refine slt_cons e.1 ?_
          obtain ⟨t, ht⟩ := V_head (n := n) (s := s) (ls := ls) (x + 1)
          obtain ⟨u, hu⟩ := V_head (n := n) (s := s) (ls := ls) (y + 1)
          by_cases hlt : lt_ s ls (x + 1) < lt_ s ls (y + 1)
          · exact lt_slt h hx1 hy1 hlt
          · have hle : lt_ s ls (x + 1) = lt_ s ls (y + 1) := by
              rw [ht, hu, List.cons_lt_cons_iff] at hw
              rcases hw with hw | hw
              · exact absurd hw hlt
              · exact hw.1
            have e2 := lt_eq hle
            have et : tn ls (x + 1) = tn ls (y + 1) := by simp [tn, e.2, e2.2]
            cases ht2 : tn ls (x + 1) with
            | true =>
              rw [V_tn ht2, V_tn (et ▸ ht2), hle] at hw
              exact absurd hw (List.lt_irrefl _)
            | false =>
              rw [V_not ht2, V_not (et ▸ ht2)] at hw
              exact ih (x + 1) (y + 1) (by omega) hx1 hy1 hw
      · have e : x = n - 1 := by omega
        refine slt_lt (by omega) hy ?_
        rw [e, h.last]
        exact h.pos y hy1
    · have e : y = n - 1 := by omega
      rcases Nat.lt_or_ge (x + 1) n with hx1 | hx1
      · rw [zco hx1, W_end (by omega), List.cons_lt_cons_iff, e, lt_last h] at hw
        have := lt_big h hx1
        omega
      · have : x = y := by omega
        rw [this] at hw
        exact absurd hw (List.lt_irrefl _)
theorem W_next (h : Txt n s ls) (hl : tn ls (n - 1) = true) : ∀ d x y, x + d + 1 < n → y < n → (∀ m, x < m → m < x + d + 1 → tn ls m = false) → tn ls (x + d + 1) = true → W n s ls x = W n s ls y →
    y + d + 1 < n ∧ (∀ m, y < m → m < y + d + 1 → tn ls m = false) ∧ tn ls (y + d + 1) = true ∧ ∀ m, m < d + 1 → s (x + m) = s (y + m) := by
  intro d
  induction d with
  | zero =>
    intro x y hx hy _ ht hw
    obtain ⟨t, hvx⟩ := V_head (n := n) (s := s) (ls := ls) (x + 1)
    have hy1 : y + 1 < n := by
      rcases Nat.lt_or_ge (y + 1) n with h1 | h1
      · exact h1
      · rw [zco (by omega), W_end (by omega), hvx] at hw
        simp at hw
    rw [zco (by omega), zco hy1] at hw
    injection hw with h1 h2
    refine ⟨hy1, fun m _ _ => by omega, ?_, fun m hm => ?_⟩
    · rw [V_tn (show tn ls (x + 1) = true from ht)] at h2
      cases hty : tn ls (y + 1) with
      | true => rfl
      | false =>
        rw [V_not hty] at h2
        rcases Nat.lt_or_ge (y + 1 + 1) n with h3 | h3
        · obtain ⟨u, hu⟩ := V_head (n := n) (s := s) (ls := ls) (y + 1 + 1)
          rw [zco h3, hu] at h2
          simp at h2
        · have : y + 1 = n - 1 := by omega
          rw [this, hl] at hty
          cases hty
    · obtain rfl : m = 0 := by omega
      exact (lt_eq h1).1
  | succ d ih =>
    intro x y hx hy hn ht hw
    obtain ⟨t, hvx⟩ := V_head (n := n) (s := s) (ls := ls) (x + 1)
    have hy1 : y + 1 < n := by
      rcases Nat.lt_or_ge (y + 1) n with h1 | h1
      · exact h1
      · rw [zco (by omega), W_end (by omega), hvx] at hw
        simp at hw
    rw [zco (by omega), zco hy1] at hw
    injection hw with h1 h2
    have n1 := hn (x + 1) (by omega) (by omega)
    rw [V_not n1] at h2
    have n2 : tn ls (y + 1) = false := by
      cases hty : tn ls (y + 1) with
      | false => rfl
      | true =>
        obtain ⟨u, hu⟩ := V_head (n := n) (s := s) (ls := ls) (x + 1 + 1)
        rw [V_tn hty, zco (by omega), hu] at h2
        simp at h2
    rw [V_not n2] at h2
    obtain ⟨i1, i2, i3, i4⟩ := ih (x + 1) (y + 1) (by omega) hy1 (fun m h3 h4 => hn m (by omega) (by omega)) (by rw [show x + 1 + d + 1 = x + (d + 1) + 1 from by omega]; exact ht) h2
    refine ⟨by omega, fun m h3 h4 => ?_, by rw [show y + (d + 1) + 1 = y + 1 + d + 1 from by omega]; exact i3, fun m hm => ?_⟩
    · by_cases e : m = y + 1
      · rw [e]; exact n2
      · exact i2 m (by omega) (by omega)
    · cases m with
      | zero => exact (lt_eq h1).1
      | succ m =>
        have := i4 m (by omega)
        rw [show x + (m + 1) = x + 1 + m from by omega, show y + (m + 1) = y + 1 + m from by omega]
        exact this
def T0 (n : Nat) (ls : Nat → Bool) : List Nat := (List.range n).filter (tn ls)
theorem zbg (n : Nat) (ls : Nat → Bool) : Turns n ls (T0 n ls) := ⟨List.nodup_range.filter _, fun x => by simp [T0]⟩
theorem T0_inc (n : Nat) (ls : Nat → Bool) : (T0 n ls).Pairwise (· < ·) := List.Pairwise.filter _ (List.pairwise_lt_range)
theorem T0_lt {a b : Nat} (hb : b < (T0 n ls).length) (h : a < b) : (T0 n ls)[a]'(by omega) < (T0 n ls)[b] := List.pairwise_iff_getElem.1 (T0_inc n ls) a b (by omega) hb h
theorem T0_next {a : Nat} (ha : a + 1 < (T0 n ls).length) (m : Nat) (h1 : (T0 n ls)[a] < m) (h2 : m < (T0 n ls)[a + 1]) : tn ls m = false := by
  cases ht : tn ls m with
  | false => rfl
  | true =>
    exfalso
    have hn := ((zbg n ls).mem _).1 (List.getElem_mem ha)
    have hm : m ∈ T0 n ls := ((zbg n ls).mem m).2 ⟨by omega, ht⟩
    obtain ⟨c, hc, e⟩ := List.mem_iff_getElem.1 hm
    rcases Nat.lt_or_ge a c with h3 | h3
    · rcases Nat.lt_or_ge (a + 1) c with h4 | h4
      · have := T0_lt hc h4
        omega
      · have : c = a + 1 := by omega
        subst this
        omega
    · rcases Nat.lt_or_ge c a with h4 | h4
      · have := T0_lt (show a < (T0 n ls).length by omega) h4
        omega
      · have : c = a := by omega
        subst this
        omega
theorem T0_last (h : Txt n s ls) : ∃ hm : 0 < (T0 n ls).length, (T0 n ls)[(T0 n ls).length - 1]'(by omega) = n - 1 := by
  have hl := Turns.last h (zbg n ls)
  obtain ⟨c, hc, e⟩ := List.mem_iff_getElem.1 hl
  refine ⟨by omega, ?_⟩
  rcases Nat.lt_or_ge c ((T0 n ls).length - 1) with h1 | h1
  · have h2 := T0_lt (n := n) (ls := ls) (a := c) (b := (T0 n ls).length - 1) (by omega) h1
    have h3 := ((zbg n ls).mem _).1 (List.getElem_mem (show (T0 n ls).length - 1 < (T0 n ls).length by omega))
    omega
  · have : c = (T0 n ls).length - 1 := by omega
    subst this
    exact e
theorem red_slt (h : Txt n s ls) {nm : Nat → Nat} (h1 : ∀ x y, x ∈ T0 n ls → y ∈ T0 n ls → nm x < nm y → W n s ls x < W n s ls y) (h2 : ∀ x y, x ∈ T0 n ls → y ∈ T0 n ls → nm x = nm y → W n s ls x = W n s ls y) :
    ∀ k a b, (ha : a + k < (T0 n ls).length) → (hb : b + k < (T0 n ls).length) → (∀ i, (hi : i < k) → nm ((T0 n ls)[a + i]'(by omega)) = nm ((T0 n ls)[b + i]'(by omega))) → nm (T0 n ls)[a + k] < nm (T0 n ls)[b + k] → slt n s ((T0 n ls)[a]'(by omega)) ((T0 n ls)[b]'(by omega)) := by
  intro k
  induction k with
  | zero =>
    intro a b ha hb _ hl
    have hx := ((zbg n ls).mem _).1 (List.getElem_mem (show a < (T0 n ls).length from ha))
    have hy := ((zbg n ls).mem _).1 (List.getElem_mem (show b < (T0 n ls).length from hb))
    exact W_slt h (n - (T0 n ls)[a]) _ _ (by omega) hx.1 hy.1 (h1 _ _ (List.getElem_mem _) (List.getElem_mem _) hl)
  | succ k ih =>
    intro a b ha hb he hl
    have e0 := h2 _ _ (List.getElem_mem _) (List.getElem_mem _) (he 0 (by omega))
    have hx := ((zbg n ls).mem _).1 (List.getElem_mem (show a + 1 < (T0 n ls).length by omega))
    have hy0 := ((zbg n ls).mem _).1 (List.getElem_mem (show b < (T0 n ls).length by omega))
    have hy := ((zbg n ls).mem _).1 (List.getElem_mem (show b + 1 < (T0 n ls).length by omega))
    have l1 := T0_lt (n := n) (ls := ls) (a := a) (b := a + 1) (by omega) (by omega)
    have l2 := T0_lt (n := n) (ls := ls) (a := b) (b := b + 1) (by omega) (by omega)
    have ti := ih (a + 1) (b + 1) (by omega) (by omega) (fun i hi => by
      have := he (i + 1) (by omega)
      simp only [show a + 1 + i = a + (i + 1) from by omega, show b + 1 + i = b + (i + 1) from by omega]
      exact this) (by
      simp only [show a + 1 + k = a + (k + 1) from by omega, show b + 1 + k = b + (k + 1) from by omega]
      exact hl)
    have tx := T0_next (n := n) (ls := ls) (a := a) (by omega)
    have ty := T0_next (n := n) (ls := ls) (a := b) (by omega)
    simp only [Nat.add_zero] at e0
    obtain ⟨x, hxe⟩ : ∃ x, (T0 n ls)[a]'(by omega) = x := ⟨_, rfl⟩
    obtain ⟨y, hye⟩ : ∃ y, (T0 n ls)[b]'(by omega) = y := ⟨_, rfl⟩
    obtain ⟨x', hxe'⟩ : ∃ x, (T0 n ls)[a + 1]'(by omega) = x := ⟨_, rfl⟩
    obtain ⟨y', hye'⟩ : ∃ y, (T0 n ls)[b + 1]'(by omega) = y := ⟨_, rfl⟩
    rw [hxe, hye] at e0
    rw [hxe, hxe'] at l1 tx
    rw [hye, hye'] at l2 ty
    rw [hxe'] at hx
    rw [hye'] at hy
    rw [hye] at hy0
    rw [hxe', hye'] at ti
    rw [hxe, hye]
    obtain ⟨d, rfl⟩ : ∃ d, x' = x + d + 1 := ⟨x' - x - 1, by omega⟩
    have hlast := ((zbg n ls).mem _).1 (Turns.last h (zbg n ls))
    obtain ⟨w1, w2, w3, w4⟩ := W_next h hlast.2 d x y hx.1 hy0.1 tx hx.2 e0
    have : y' = y + d + 1 := by
      rcases Nat.lt_or_ge y' (y + d + 1) with h3 | h3
      · have := w2 y' l2 h3
        rw [hy.2] at this
        cases this
      · rcases Nat.lt_or_ge (y + d + 1) y' with h4 | h4
        · have := ty (y + d + 1) (by omega) h4
          rw [w3] at this
          cases this
        · omega
    subst this
    exact slt_shift (d := d + 1) w4 ti
end
end Go.Proofs.YtdifgiceallpiaaDoor.Sais
/- The induced sort, plainly: names. -/
namespace Go.Proofs.YtdifgiceallpiaaDoor.Sais
section
variable {n : Nat} {s : Nat → Nat} {ls : Nat → Bool} {T : List Nat}
def asL (n : Nat) (s : Nat → Nat) (ls : Nat → Bool) (T : List Nat) : List Nat := (List.range n).map (fun j => (AS n s ls T j).toNat)
structure Perm0 (n : Nat) (l : List Nat) : Prop where
  len : l.length = n
  nd : l.Nodup
  lt : ∀ x ∈ l, x < n
theorem Perm0.all {l : List Nat} (h : Perm0 n l) (x : Nat) (hx : x < n) : x ∈ l := by
  obtain ⟨i, hi, e⟩ := range_all (n := n) (f := fun i => l.getD i 0) (fun i hi => by
    have hl := h.len
    rw [List.getD_eq_getElem?_getD, List.getElem?_eq_getElem (by omega)]
    exact h.lt _ (List.getElem_mem _)) (fun i j hi hj e => by
    have hl := h.len
    simp only [List.getD_eq_getElem?_getD] at e
    rw [List.getElem?_eq_getElem (by omega), List.getElem?_eq_getElem (by omega)] at e
    have : l[i]? = l[j]? := by rw [List.getElem?_eq_getElem (by omega), List.getElem?_eq_getElem (by omega)]; exact congrArg some e
    exact (List.getElem?_inj (by omega) h.nd).1 this) x hx
  have hl := h.len
  rw [← e]
  simp only [List.getD_eq_getElem?_getD]
  rw [List.getElem?_eq_getElem (by omega)]
  exact List.getElem_mem _
theorem asL_perm (h : Txt n s ls) (hT : Turns n ls T) : Perm0 n (asL n s ls T) := by
  obtain ⟨a1, a2, a3, _⟩ := AS_ok h hT
  refine ⟨by simp [asL], ?_, fun x hx => ?_⟩
  · unfold asL
    rw [List.nodup_iff_pairwise_ne, List.pairwise_map]
    refine List.Pairwise.imp_of_mem (fun {a b} ha hb hab e => ?_) (List.nodup_range)
    have ha := List.mem_range.1 ha
    have hb := List.mem_range.1 hb
    obtain ⟨x, _, hx⟩ := a2 a ha
    obtain ⟨y, _, hy⟩ := a2 b hb
    rw [hx, hy, Int.toNat_natCast, Int.toNat_natCast] at e
    subst e
    exact hab (a3 a b x ha hb hx hy)
  · obtain ⟨j, hj, rfl⟩ := List.mem_map.1 hx
    obtain ⟨x, h1, h2⟩ := a2 j (List.mem_range.1 hj)
    rw [h2]; exact h1
theorem asL_rel (h : Txt n s ls) (hT : Turns n ls T) {r1 r2 : Nat → Nat → Prop} (hr : Rels n s ls T r1 r2) : (asL n s ls T).Pairwise r2 := by
  obtain ⟨a1, a2, a3, a4⟩ := AS_ok h hT
  unfold asL
  rw [List.pairwise_map, List.pairwise_iff_getElem]
  intro i j hi hj hij
  rw [List.length_range] at hi hj
  simp only [List.getElem_range]
  obtain ⟨x, _, hx⟩ := a2 i hi
  obtain ⟨y, _, hy⟩ := a2 j hj
  rw [hx, hy, Int.toNat_natCast, Int.toNat_natCast]
  exact a4 r1 r2 hr i j x y hij hj hx hy
structure IsSA (n : Nat) (s : Nat → Nat) (out : List Nat) : Prop where
  p : Perm0 n out
  o : out.Pairwise (slt n s)
theorem asL_sa (h : Txt n s ls) (hT : Turns n ls T) (ho : T.Pairwise (slt n s)) : IsSA n s (asL n s ls T) :=
  ⟨asL_perm h hT, asL_rel h hT (rels_slt h (fun _ => ho.filter _))⟩
def nmStep (w : Nat → List Nat) (st : (Nat → Nat) × Nat × Option Nat) (x : Nat) : (Nat → Nat) × Nat × Option Nat :=
  let many := match st.2.2 with
    | none => st.2.1
    | some y => if w y = w x then st.2.1 else st.2.1 + 1
  (upd st.1 x many, many, some x)
def nmL (w : Nat → List Nat) (L : List Nat) : (Nat → Nat) × Nat × Option Nat := L.foldl (nmStep w) (fun _ => 0, 0, none)
theorem nmL_snoc (w : Nat → List Nat) (L : List Nat) (x : Nat) : nmL w (L ++ [x]) = nmStep w (nmL w L) x := by simp [nmL]
structure NmOk (w : Nat → List Nat) (L : List Nat) (st : (Nat → Nat) × Nat × Option Nat) : Prop where
  z : L = [] → st.2.1 = 0 ∧ st.2.2 = none
  l : ∀ x, L.getLast? = some x → st.2.2 = some x ∧ st.1 x = st.2.1 ∧ st.2.1 + 1 ≤ L.length
  a : ∀ x y, x ∈ L → y ∈ L → st.1 x < st.1 y → w x < w y
  b : ∀ x y, x ∈ L → y ∈ L → st.1 x = st.1 y → w x = w y
  c : ∀ x, x ∈ L → st.1 x ≤ st.2.1
  d : st.2.1 + 1 = L.length → ∀ (i x : Nat), L[i]? = some x → st.1 x = i
  e : ∀ x, L[0]? = some x → st.1 x = 0
theorem nm_ok {w : Nat → List Nat} : ∀ (m : Nat) (L : List Nat), L.length = m → L.Nodup → L.Pairwise (fun x y => w x ≤ w y) → NmOk w L (nmL w L) := by
  intro m
  induction m with
  | zero =>
    intro L hl hn hp
    obtain rfl := List.eq_nil_of_length_eq_zero hl
    refine ⟨fun _ => ⟨rfl, rfl⟩, by simp, by simp, by simp, by simp, by simp, by simp⟩
  | succ m ih =>
    intro L0 hl0 hn0 hp0
    obtain ⟨L, x, rfl⟩ : ∃ L x, L0 = L ++ [x] := ⟨L0.dropLast, L0.getLast (by intro e; rw [e] at hl0; simp at hl0), (List.dropLast_concat_getLast _).symm⟩
    rw [List.length_append, List.length_singleton] at hl0
    have hl : L.length = m := by omega
    rw [List.nodup_append] at hn0
    have hxL : x ∉ L := fun h => hn0.2.2 x h x (List.mem_singleton_self x) rfl
    rw [List.pairwise_append] at hp0
    have hi := ih L hl hn0.1 hp0.1
    rw [nmL_snoc]
    obtain ⟨st, hst⟩ : ∃ st, nmL w L = st := ⟨_, rfl⟩
    rw [hst] at hi ⊢
    have hne : ∀ y, y ∈ L → y ≠ x := fun y hy e => hxL (e ▸ hy)
    cases hL : L.getLast? with
    | none =>
      have e : L = [] := List.getLast?_eq_none_iff.1 hL
      have hz := hi.z e
      have e2 : nmStep w st x = (upd st.1 x 0, 0, some x) := by unfold nmStep; rw [hz.2, hz.1]
      rw [e2]
      subst e
      refine ⟨by simp, fun y hy => ?_, fun y z hy hz h => ?_, fun y z hy hz h => ?_, fun y hy => ?_, fun _ i y hy => ?_, fun y hy => ?_⟩
      · have : x = y := by simpa using hy
        subst this
        exact ⟨rfl, upd_same _ _ _, by simp⟩
      · have e1 : y = x := by simpa using hy
        have e3 : z = x := by simpa using hz
        subst e1; subst e3
        exact absurd h (by omega)
      · have e1 : y = x := by simpa using hy
        have e3 : z = x := by simpa using hz
        rw [e1, e3]
      · have e1 : y = x := by simpa using hy
        subst e1
        exact Nat.le_of_eq (upd_same _ _ _)
      · have : i < 1 := get_lt hy
        obtain rfl : i = 0 := by omega
        have e1 : x = y := by simpa using hy
        subst e1
        exact upd_same _ _ _
      · have e1 : x = y := by simpa using hy
        subst e1
        exact upd_same _ _ _
    | some y =>
      have hyL : y ∈ L := List.mem_of_getLast? hL
      obtain ⟨l1, l2, l3⟩ := hi.l y hL
      have hyx : w y ≤ w x := hp0.2.2 y hyL x (List.mem_singleton_self x)
      have hall : ∀ z, z ∈ L → w z ≤ w y := by
        intro z hz
        have hc := hi.c z hz
        rw [← l2] at hc
        rcases Nat.lt_or_ge (st.1 z) (st.1 y) with h | h
        · exact List.le_iff_lt_or_eq.2 (.inl (hi.a z y hz hyL h))
        · exact List.le_iff_lt_or_eq.2 (.inr (hi.b z y hz hyL (by omega)))
      have hL0 : L ≠ [] := by intro e; rw [e] at hyL; cases hyL
      have h0 : ∀ z, (L ++ [x])[0]? = some z → L[0]? = some z := by
        intro z hz
        rw [List.getElem?_append_left (by omega)] at hz
        exact hz
      by_cases he : w y = w x
      · have e2 : nmStep w st x = (upd st.1 x st.2.1, st.2.1, some x) := by unfold nmStep; rw [l1]; simp [he]
        rw [e2]
        have hu : ∀ z, z ∈ L → upd st.1 x st.2.1 z = st.1 z := fun z hz => upd_ne _ _ (hne z hz)
        refine ⟨by simp, fun z hz => ?_, fun a b ha hb h => ?_, fun a b ha hb h => ?_, fun a ha => ?_, fun h => ?_, fun z hz => ?_⟩
        · have : x = z := by simpa using hz
          subst this
          exact ⟨rfl, upd_same _ _ _, by rw [List.length_append, List.length_singleton]; show st.2.1 + 1 ≤ _; omega⟩
        · have h : upd st.1 x st.2.1 a < upd st.1 x st.2.1 b := h
          rcases List.mem_append.1 ha with ha | ha <;> rcases List.mem_append.1 hb with hb | hb
          · rw [hu a ha, hu b hb] at h; exact hi.a a b ha hb h
          · rw [List.mem_singleton.1 hb] at h ⊢
            rw [hu a ha, upd_same, ← l2] at h
            rw [← he]; exact hi.a a y ha hyL h
          · rw [List.mem_singleton.1 ha] at h
            rw [hu b hb, upd_same] at h
            have := hi.c b hb
            omega
          · rw [List.mem_singleton.1 ha, List.mem_singleton.1 hb] at h
            omega
        · have h : upd st.1 x st.2.1 a = upd st.1 x st.2.1 b := h
          rcases List.mem_append.1 ha with ha | ha <;> rcases List.mem_append.1 hb with hb | hb
          · rw [hu a ha, hu b hb] at h; exact hi.b a b ha hb h
          · rw [List.mem_singleton.1 hb] at h ⊢
            rw [hu a ha, upd_same, ← l2] at h
            rw [← he]; exact hi.b a y ha hyL h
          · rw [List.mem_singleton.1 ha] at h ⊢
            rw [hu b hb, upd_same, ← l2] at h
            rw [← he]; exact hi.b y b hyL hb h
          · rw [List.mem_singleton.1 ha, List.mem_singleton.1 hb]
        · show upd st.1 x st.2.1 a ≤ st.2.1
          rcases List.mem_append.1 ha with ha | ha
          · rw [hu a ha]; exact hi.c a ha
          · rw [List.mem_singleton.1 ha, upd_same]; omega
        · have h : st.2.1 + 1 = (L ++ [x]).length := h
          rw [List.length_append, List.length_singleton] at h
          omega
        · show upd st.1 x st.2.1 z = 0
          have hz := h0 z hz
          rw [hu z (get_mem hz)]
          exact hi.e z hz
      · have e2 : nmStep w st x = (upd st.1 x (st.2.1 + 1), st.2.1 + 1, some x) := by unfold nmStep; rw [l1]; simp [he]
        rw [e2]
        have hu : ∀ z, z ∈ L → upd st.1 x (st.2.1 + 1) z = st.1 z := fun z hz => upd_ne _ _ (hne z hz)
        have hyx2 : w y < w x := by
          rcases List.le_iff_lt_or_eq.1 hyx with h | h
          · exact h
          · exact absurd h he
        refine ⟨by simp, fun z hz => ?_, fun a b ha hb h => ?_, fun a b ha hb h => ?_, fun a ha => ?_, fun h i z hz => ?_, fun z hz => ?_⟩
        · have : x = z := by simpa using hz
          subst this
          exact ⟨rfl, upd_same _ _ _, by rw [List.length_append, List.length_singleton]; show st.2.1 + 1 + 1 ≤ _; omega⟩
        · have h : upd st.1 x (st.2.1 + 1) a < upd st.1 x (st.2.1 + 1) b := h
          rcases List.mem_append.1 ha with ha | ha <;> rcases List.mem_append.1 hb with hb | hb
          · rw [hu a ha, hu b hb] at h; exact hi.a a b ha hb h
          · rw [List.mem_singleton.1 hb]
            exact List.lt_of_le_of_lt (hall a ha) hyx2
          · rw [List.mem_singleton.1 ha] at h
            rw [hu b hb, upd_same] at h
            have := hi.c b hb
            omega
          · rw [List.mem_singleton.1 ha, List.mem_singleton.1 hb] at h
            omega
        · have h : upd st.1 x (st.2.1 + 1) a = upd st.1 x (st.2.1 + 1) b := h
          rcases List.mem_append.1 ha with ha | ha <;> rcases List.mem_append.1 hb with hb | hb
          · rw [hu a ha, hu b hb] at h; exact hi.b a b ha hb h
          · rw [List.mem_singleton.1 hb] at h
            rw [hu a ha, upd_same] at h
            have := hi.c a ha
            omega
          · rw [List.mem_singleton.1 ha] at h
            rw [hu b hb, upd_same] at h
            have := hi.c b hb
            omega
          · rw [List.mem_singleton.1 ha, List.mem_singleton.1 hb]
        · show upd st.1 x (st.2.1 + 1) a ≤ st.2.1 + 1
          rcases List.mem_append.1 ha with ha | ha
          · rw [hu a ha]; have := hi.c a ha; omega
          · rw [List.mem_singleton.1 ha, upd_same]; omega
        · have h : st.2.1 + 1 + 1 = (L ++ [x]).length := h
          rw [List.length_append, List.length_singleton] at h
          show upd st.1 x (st.2.1 + 1) z = i
          rcases Nat.lt_or_ge i L.length with h3 | h3
          · rw [List.getElem?_append_left h3] at hz
            rw [hu z (get_mem hz)]
            exact hi.d (by omega) i z hz
          · rw [List.getElem?_append_right h3] at hz
            have h4 := get_lt hz
            rw [List.length_singleton] at h4
            have h5 : i = L.length := by omega
            subst h5
            rw [Nat.sub_self] at hz
            have : x = z := by simpa using hz
            subst this
            rw [upd_same]; omega
        · show upd st.1 x (st.2.1 + 1) z = 0
          have hz := h0 z hz
          rw [hu z (get_mem hz)]
          exact hi.e z hz
def srt (n : Nat) (s : Nat → Nat) (ls : Nat → Bool) : List Nat := (asL n s ls (T0 n ls)).filter (tn ls)
theorem zcl (h : Txt n s ls) (x : Nat) : x ∈ srt n s ls ↔ x ∈ T0 n ls := by
  have hp := asL_perm h (zbg n ls)
  constructor
  · intro hx
    have := List.mem_filter.1 hx
    exact ((zbg n ls).mem x).2 ⟨hp.lt x this.1, this.2⟩
  · intro hx
    have := ((zbg n ls).mem x).1 hx
    exact List.mem_filter.2 ⟨hp.all x this.1, this.2⟩
theorem srt_nd (h : Txt n s ls) : (srt n s ls).Nodup := (asL_perm h (zbg n ls)).nd.filter _
theorem srt_len (h : Txt n s ls) : (srt n s ls).length = (T0 n ls).length :=
  Nat.le_antisymm (List.Nodup.length_le_of_subset (srt_nd h) (fun x hx => (zcl h x).1 hx)) (List.Nodup.length_le_of_subset (zbg n ls).nd (fun x hx => (zcl h x).2 hx))
theorem srt_ord (h : Txt n s ls) : (srt n s ls).Pairwise (fun x y => W n s ls x ≤ W n s ls y) := (asL_rel h (zbg n ls) (rels_word h (zbg n ls))).filter _
def nms (n : Nat) (s : Nat → Nat) (ls : Nat → Bool) : (Nat → Nat) × Nat × Option Nat := nmL (W n s ls) (srt n s ls)
theorem nms_ok (h : Txt n s ls) : NmOk (W n s ls) (srt n s ls) (nms n s ls) := nm_ok _ _ rfl (srt_nd h) (srt_ord h)
theorem srt_pos (h : Txt n s ls) : 0 < (srt n s ls).length := by
  rw [srt_len h]
  exact (T0_last h).1
theorem srt_first (h : Txt n s ls) : (srt n s ls)[0]? = some (n - 1) := by
  have hp := srt_pos h
  have hm : n - 1 ∈ srt n s ls := (zcl h _).2 (Turns.last h (zbg n ls))
  rw [List.getElem?_eq_getElem hp]
  congr 1
  apply Classical.byContradiction
  intro hne
  obtain ⟨t, ht, e⟩ := List.mem_iff_getElem.1 hm
  have ht0 : 0 < t := by
    rcases Nat.eq_zero_or_pos t with h0 | h0
    · subst h0; exact absurd e hne
    · exact h0
  have ho := List.pairwise_iff_getElem.1 (srt_ord h) 0 t hp ht ht0
  have hx := ((zbg n ls).mem _).1 ((zcl h _).1 (List.getElem_mem hp))
  have hx1 : (srt n s ls)[0] + 1 < n := by omega
  rw [e, zco hx1, W_end (i := n - 1) (by omega), List.cons_le_cons_iff, lt_last h] at ho
  have := lt_big h hx1
  omega
def row (n : Nat) (s : Nat → Nat) (ls : Nat → Bool) (a : Nat) : Nat := (nms n s ls).1 ((T0 n ls).getD a 0)
theorem zcg {a : Nat} (ha : a < (T0 n ls).length) : (T0 n ls).getD a 0 = (T0 n ls)[a] := by
  rw [List.getD_eq_getElem?_getD, List.getElem?_eq_getElem ha]; rfl
theorem row_ok (h : Txt n s ls) : row n s ls ((T0 n ls).length - 1) = 0 ∧ (∀ a, a + 1 < (T0 n ls).length → 0 < row n s ls a) ∧ (∀ a, a < (T0 n ls).length → row n s ls a < (nms n s ls).2.1 + 1) ∧ (nms n s ls).2.1 + 1 ≤ (T0 n ls).length := by
  have hk := nms_ok h
  obtain ⟨hm, hl⟩ := T0_last h
  have h0 := hk.e _ (srt_first h)
  refine ⟨?_, fun a ha => ?_, fun a ha => ?_, ?_⟩
  · unfold row
    rw [zcg (by omega), hl]
    exact h0
  · apply Classical.byContradiction
    intro hz
    have hz : row n s ls a = 0 := by omega
    unfold row at hz
    rw [zcg (by omega)] at hz
    have hx := List.getElem_mem (show a < (T0 n ls).length by omega)
    have hw := hk.b _ (n - 1) ((zcl h _).2 hx) ((zcl h _).2 (Turns.last h (zbg n ls))) (hz.trans h0.symm)
    have hlt := T0_lt (n := n) (ls := ls) (a := a) (b := (T0 n ls).length - 1) (by omega) (by omega)
    rw [hl] at hlt
    rw [zco (by omega), W_end (i := n - 1) (by omega)] at hw
    injection hw with h1 _
    rw [lt_last h] at h1
    have := lt_big h (x := (T0 n ls)[a]) (by omega)
    omega
  · have := hk.c _ ((zcl h _).2 (List.getElem_mem ha))
    unfold row
    rw [zcg ha]
    omega
  · have hp := srt_pos h
    rw [← srt_len h]
    obtain ⟨x, hx⟩ : ∃ x, (srt n s ls).getLast? = some x := ⟨_, List.getLast?_eq_some_getLast (by intro e; rw [e] at hp; simp at hp)⟩
    exact (hk.l x hx).2.2
theorem slt_row (h : Txt n s ls) {a b : Nat} (hl : slt (T0 n ls).length (row n s ls) a b) : ∃ (ha : a < (T0 n ls).length) (hb : b < (T0 n ls).length), slt n s (T0 n ls)[a] (T0 n ls)[b] := by
  obtain ⟨k, h1, h2, h3, h4⟩ := hl
  have hk := nms_ok h
  refine ⟨by omega, by omega, ?_⟩
  refine red_slt h (nm := (nms n s ls).1) (fun x y hx hy => hk.a x y ((zcl h x).2 hx) ((zcl h y).2 hy)) (fun x y hx hy => hk.b x y ((zcl h x).2 hx) ((zcl h y).2 hy)) k a b h1 h2 (fun i hi => ?_) ?_
  · have := h3 i hi
    unfold row at this
    rw [zcg (by omega), zcg (by omega)] at this
    exact this
  · unfold row at h4
    rw [zcg h1, zcg h2] at h4
    exact h4
theorem ord_many (h : Txt n s ls) {sa : List Nat} (hs : IsSA (T0 n ls).length (row n s ls) sa) : Turns n ls (sa.map (fun i => (T0 n ls).getD i 0)) ∧ (sa.map (fun i => (T0 n ls).getD i 0)).Pairwise (slt n s) := by
  refine ⟨⟨?_, fun x => ?_⟩, ?_⟩
  · rw [List.nodup_iff_pairwise_ne, List.pairwise_map]
    refine List.Pairwise.imp_of_mem (fun {a b} ha hb hab e => ?_) hs.p.nd
    have ha := hs.p.lt a ha
    have hb := hs.p.lt b hb
    rw [zcg ha, zcg hb] at e
    refine hab ((List.getElem?_inj ha (zbg n ls).nd).1 ?_)
    rw [List.getElem?_eq_getElem ha, List.getElem?_eq_getElem hb, e]
  · rw [← (zbg n ls).mem x]
    constructor
    · intro hx
      obtain ⟨a, ha, rfl⟩ := List.mem_map.1 hx
      have ha := hs.p.lt a ha
      rw [zcg ha]
      exact List.getElem_mem ha
    · intro hx
      obtain ⟨a, ha, e⟩ := List.mem_iff_getElem.1 hx
      exact List.mem_map.2 ⟨a, hs.p.all a ha, by rw [zcg ha]; exact e⟩
  · rw [List.pairwise_map]
    refine hs.o.imp (fun {a b} hab => ?_)
    obtain ⟨ha, hb, hl⟩ := slt_row h hab
    rw [zcg ha, zcg hb]
    exact hl
theorem ord_one (h : Txt n s ls) (he : (nms n s ls).2.1 + 1 = (T0 n ls).length) : Turns n ls (srt n s ls) ∧ (srt n s ls).Pairwise (slt n s) ∧ ∀ a, a < (T0 n ls).length → (srt n s ls)[row n s ls a]? = some ((T0 n ls).getD a 0) := by
  have hk := nms_ok h
  have hd := hk.d (by rw [srt_len h]; exact he)
  refine ⟨⟨srt_nd h, fun x => by rw [zcl h, (zbg n ls).mem]⟩, ?_, fun a ha => ?_⟩
  · rw [List.pairwise_iff_getElem]
    intro i j hi hj hij
    have hx := ((zbg n ls).mem _).1 ((zcl h _).1 (List.getElem_mem hi))
    have hy := ((zbg n ls).mem _).1 ((zcl h _).1 (List.getElem_mem hj))
    refine W_slt h (n - (srt n s ls)[i]) _ _ (by omega) hx.1 hy.1 (hk.a _ _ (List.getElem_mem hi) (List.getElem_mem hj) ?_)
    rw [hd i _ (List.getElem?_eq_getElem hi), hd j _ (List.getElem?_eq_getElem hj)]
    exact hij
  · have hm : (T0 n ls).getD a 0 ∈ srt n s ls := by rw [zcg ha]; exact (zcl h _).2 (List.getElem_mem ha)
    obtain ⟨i, hi, e⟩ := List.mem_iff_getElem.1 hm
    have h1 := List.getElem?_eq_getElem hi
    rw [e] at h1
    have h2 := hd i _ h1
    unfold row
    rw [h2]
    exact h1
end
end Go.Proofs.YtdifgiceallpiaaDoor.Sais
/- The induced sort, plainly: step by step. -/
namespace Go.Proofs.YtdifgiceallpiaaDoor.Sais
section
variable {n : Nat} {s : Nat → Nat} {ls : Nat → Bool} {T : List Nat}
def pL (n : Nat) (s : Nat → Nat) (ls : Nat → Bool) (T : List Nat) (p : Nat) : Nat → Int := (prun n s upB (indL n ls) (place0 n s T) p).1
def aL (n : Nat) (s : Nat → Nat) (ls : Nat → Bool) (T : List Nat) (p c : Nat) : Nat := hd n s upB c + ((prun n s upB (indL n ls) (place0 n s T) p).2 c).length
theorem place0_range (hT : Turns n ls T) (j : Nat) : place0 n s T j = -1 ∨ ∃ x, x < n ∧ place0 n s T j = (x : Int) := by
  obtain ⟨p1, p2, p3⟩ := place_ok (n := n) (s := s) T hT.nd hT.lt
  by_cases hg : ∃ c r, r < (buck s T c).length ∧ j = gs n s upB (buck s T) c + r
  · obtain ⟨c, r, hr, rfl⟩ := hg
    exact .inr ⟨_, hT.lt _ (List.mem_filter.1 (List.getElem_mem hr)).1, p2 c r _ (List.getElem?_eq_getElem hr)⟩
  · exact .inl (p3 j (fun c r hr e2 => hg ⟨c, r, hr, e2⟩))
theorem pL_range (h : Txt n s ls) (hT : Turns n ls T) {p : Nat} (hp : p ≤ n) (j : Nat) : pL n s ls T p j = -1 ∨ ∃ x, x < n ∧ pL n s ls T p j = (x : Int) := by
  have hi := inv_run (passL h hT) p hp
  by_cases hg : ∃ c r, r < ((prun n s upB (indL n ls) (place0 n s T) p).2 c).length ∧ j = hd n s upB c + r
  · obtain ⟨c, r, hr, rfl⟩ := hg
    have hx := List.getElem?_eq_getElem hr
    have := zb3.1 (hi.f_ok c _ (get_mem hx)).1
    exact .inr ⟨_, by omega, hi.fB c r _ hx⟩
  · have : pL n s ls T p j = place0 n s T j := hi.oB j (fun c r hr e => hg ⟨c, r, hr, e⟩)
    rw [this]
    exact place0_range hT j
theorem pL_no {p : Nat} (hc : ¬ (1 ≤ pL n s ls T p p ∧ indL n ls (pL n s ls T p p - 1).toNat = true)) : pL n s ls T (p + 1) = pL n s ls T p ∧ aL n s ls T (p + 1) = aL n s ls T p := by
  have : prun n s upB (indL n ls) (place0 n s T) (p + 1) = prun n s upB (indL n ls) (place0 n s T) p := by
    rw [prun]
    unfold pstep
    exact if_neg hc
  unfold pL aL
  rw [this]
  exact ⟨rfl, rfl⟩
theorem pL_skip (h : Txt n s ls) (hT : Turns n ls T) {p : Nat} (hp : p < n) (hc : pL n s ls T p p ≤ 0 ∨ ∃ k : Nat, pL n s ls T p p = (k : Int) + 1 ∧ ls k = true) : pL n s ls T (p + 1) = pL n s ls T p ∧ aL n s ls T (p + 1) = aL n s ls T p := by
  refine pL_no ?_
  rintro ⟨h1, h2⟩
  rcases hc with hc | ⟨k, hk, hl⟩
  · omega
  · rw [hk, show ((k : Int) + 1 - 1).toNat = k from by omega] at h2
    have := (zb3.1 h2).2
    rw [hl] at this
    cases this
theorem pL_yes (h : Txt n s ls) (hT : Turns n ls T) {p k : Nat} (hp : p < n) (hk : pL n s ls T p p = (k : Int) + 1) (hl : ls k = false) :
    k + 1 < n ∧ aL n s ls T p (s k) < n ∧ pL n s ls T (p + 1) = upd (pL n s ls T p) (aL n s ls T p (s k)) (k : Int) ∧ ∀ c, aL n s ls T (p + 1) c = if c = s k then aL n s ls T p c + 1 else aL n s ls T p c := by
  have hkn : k + 1 < n := by
    rcases pL_range h hT (Nat.le_of_lt hp) p with e | ⟨x, hx, e⟩
    · rw [e] at hk; omega
    · rw [e] at hk; omega
  have hind : indL n ls k = true := zb3.2 ⟨hkn, hl⟩
  have hi := inv_run (passL h hT) p (Nat.le_of_lt hp)
  obtain ⟨_, _, _, _, hroom⟩ := step_room (passL h hT) hi hp hk hind
  have hst : prun n s upB (indL n ls) (place0 n s T) (p + 1) = (upd (pL n s ls T p) (aL n s ls T p (s k)) (k : Int), upd (prun n s upB (indL n ls) (place0 n s T) p).2 (s k) ((prun n s upB (indL n ls) (place0 n s T) p).2 (s k) ++ [k])) := by
    have hk2 : (prun n s upB (indL n ls) (place0 n s T) p).1 p = (k : Int) + 1 := hk
    rw [prun]
    unfold pstep
    rw [if_pos ⟨by omega, by rw [hk2, show ((k : Int) + 1 - 1).toNat = k from by omega]; exact hind⟩, hk2, show ((k : Int) + 1 - 1).toNat = k from by omega, show (k : Int) + 1 - 1 = (k : Int) from by omega]
    rfl
  refine ⟨hkn, hroom, by unfold pL; rw [hst]; rfl, fun c => ?_⟩
  unfold aL
  rw [hst]
  show hd n s upB c + (upd (prun n s upB (indL n ls) (place0 n s T) p).2 (s k) _ c).length = _
  by_cases e : c = s k
  · rw [e, upd_same, if_pos rfl, List.length_append, List.length_singleton]; omega
  · rw [upd_ne _ _ e, if_neg e]
def pS (n : Nat) (s : Nat → Nat) (ls : Nat → Bool) (T : List Nat) (p : Nat) (j : Nat) : Int := (prun n s dnB (indS n ls) (BS n s ls T) p).1 (n - 1 - j)
def aS (n : Nat) (s : Nat → Nat) (ls : Nat → Bool) (T : List Nat) (p c : Nat) : Nat := tl n s c - ((prun n s dnB (indS n ls) (BS n s ls T) p).2 c).length
theorem pS_zero {j : Nat} (hj : j < n) : pS n s ls T 0 j = AL n s ls T j := by
  show AL n s ls T (n - 1 - (n - 1 - j)) = _
  congr 1; omega
theorem pS_end : pS n s ls T n = AS n s ls T := rfl
theorem AL_range (h : Txt n s ls) (hT : Turns n ls T) (j : Nat) : AL n s ls T j = -1 ∨ ∃ x, x < n ∧ AL n s ls T j = (x : Int) := pL_range h hT (Nat.le_refl n) j
theorem pS_range (h : Txt n s ls) (hT : Turns n ls T) {p : Nat} (hp : p ≤ n) (j : Nat) : pS n s ls T p j = -1 ∨ ∃ x, x < n ∧ pS n s ls T p j = (x : Int) := by
  have hi := inv_run (passS h hT) p hp
  by_cases hg : ∃ c r, r < ((prun n s dnB (indS n ls) (BS n s ls T) p).2 c).length ∧ n - 1 - j = hd n s dnB c + r
  · obtain ⟨c, r, hr, e⟩ := hg
    have hx := List.getElem?_eq_getElem hr
    have := zca.1 (hi.f_ok c _ (get_mem hx)).1
    refine .inr ⟨_, Nat.lt_of_succ_lt this.1, ?_⟩
    unfold pS
    rw [e]
    exact hi.fB c r _ hx
  · have : pS n s ls T p j = BS n s ls T (n - 1 - j) := hi.oB _ (fun c r hr e => hg ⟨c, r, hr, e⟩)
    rw [this]
    exact AL_range h hT _
theorem pS_skip (h : Txt n s ls) (hT : Turns n ls T) {p q : Nat} (hq : p + q + 1 = n) (hc : pS n s ls T p q ≤ 0 ∨ ∃ k : Nat, pS n s ls T p q = (k : Int) + 1 ∧ ls k = false) : pS n s ls T (p + 1) = pS n s ls T p ∧ aS n s ls T (p + 1) = aS n s ls T p := by
  have e : pS n s ls T p q = (prun n s dnB (indS n ls) (BS n s ls T) p).1 p := by
    exact congrArg (prun n s dnB (indS n ls) (BS n s ls T) p).1 (show n - 1 - q = p by omega)
  have : prun n s dnB (indS n ls) (BS n s ls T) (p + 1) = prun n s dnB (indS n ls) (BS n s ls T) p := by
    rw [prun]
    unfold pstep
    refine if_neg ?_
    rintro ⟨h1, h2⟩
    rw [e] at hc
    rcases hc with hc | ⟨k, hk, hl⟩
    · omega
    · rw [hk, show ((k : Int) + 1 - 1).toNat = k from by omega] at h2
      have := (zca.1 h2).2
      rw [hl] at this
      cases this
  have e1 : pS n s ls T (p + 1) = pS n s ls T p := by funext j; unfold pS; rw [this]
  have e2 : aS n s ls T (p + 1) = aS n s ls T p := by funext c; unfold aS; rw [this]
  exact ⟨e1, e2⟩
theorem pS_yes (h : Txt n s ls) (hT : Turns n ls T) {p q k : Nat} (hq : p + q + 1 = n) (hk : pS n s ls T p q = (k : Int) + 1) (hl : ls k = true) :
    k + 1 < n ∧ 1 ≤ aS n s ls T p (s k) ∧ aS n s ls T p (s k) ≤ n ∧ (∀ j, j < n → pS n s ls T (p + 1) j = if j = aS n s ls T p (s k) - 1 then (k : Int) else pS n s ls T p j) ∧ ∀ c, aS n s ls T (p + 1) c = if c = s k then aS n s ls T p c - 1 else aS n s ls T p c := by
  have e : pS n s ls T p q = (prun n s dnB (indS n ls) (BS n s ls T) p).1 p := by
    exact congrArg (prun n s dnB (indS n ls) (BS n s ls T) p).1 (show n - 1 - q = p by omega)
  have hp : p < n := by omega
  have hkn : k + 1 < n := by
    rcases pS_range h hT (Nat.le_of_lt hp) q with e | ⟨x, hx, e⟩
    · rw [e] at hk; omega
    · rw [e] at hk; omega
  have hk2 : (prun n s dnB (indS n ls) (BS n s ls T) p).1 p = (k : Int) + 1 := by rw [← e]; exact hk
  have hind : indS n ls k = true := zca.2 ⟨hkn, hl⟩
  have hi := inv_run (passS h hT) p (Nat.le_of_lt hp)
  obtain ⟨_, _, _, hcap, hroom⟩ := step_room (passS h hT) hi hp hk2 hind
  have hdn := dn_hd (n := n) (s := s) (s k)
  have htl : tl n s (s k) = hd n s upB (s k) + sz n s (s k) := rfl
  have hst : prun n s dnB (indS n ls) (BS n s ls T) (p + 1) = (upd (prun n s dnB (indS n ls) (BS n s ls T) p).1 (hd n s dnB (s k) + ((prun n s dnB (indS n ls) (BS n s ls T) p).2 (s k)).length) (k : Int), upd (prun n s dnB (indS n ls) (BS n s ls T) p).2 (s k) ((prun n s dnB (indS n ls) (BS n s ls T) p).2 (s k) ++ [k])) := by
    rw [prun]
    unfold pstep
    rw [if_pos ⟨by omega, by rw [hk2, show ((k : Int) + 1 - 1).toNat = k from by omega]; exact hind⟩, hk2, show ((k : Int) + 1 - 1).toNat = k from by omega, show (k : Int) + 1 - 1 = (k : Int) from by omega]
  refine ⟨hkn, by unfold aS; omega, by unfold aS; omega, fun j hj => ?_, fun c => ?_⟩
  · show (prun n s dnB (indS n ls) (BS n s ls T) (p + 1)).1 (n - 1 - j) = _
    rw [hst]
    show upd _ _ _ (n - 1 - j) = _
    by_cases ej : j = aS n s ls T p (s k) - 1
    · rw [if_pos ej]
      have : n - 1 - j = hd n s dnB (s k) + ((prun n s dnB (indS n ls) (BS n s ls T) p).2 (s k)).length := by
        rw [ej]; unfold aS; omega
      rw [this, upd_same]
    · rw [if_neg ej, upd_ne]
      · rfl
      · intro e2
        apply ej
        unfold aS
        omega
  · show tl n s c - ((prun n s dnB (indS n ls) (BS n s ls T) (p + 1)).2 c).length = _
    rw [hst]
    show tl n s c - (upd (prun n s dnB (indS n ls) (BS n s ls T) p).2 (s k) ((prun n s dnB (indS n ls) (BS n s ls T) p).2 (s k) ++ [k]) c).length = _
    by_cases ec : c = s k
    · rw [ec, upd_same, if_pos rfl, List.length_append, List.length_singleton]; unfold aS; omega
    · rw [upd_ne _ _ ec, if_neg ec]; rfl
theorem place_room {x : Nat} {U : List Nat} (hn : (x :: U).Nodup) (hl : ∀ y ∈ x :: U, y < n) : 1 ≤ (place s U (fun _ => -1, tl n s)).2 (s x) ∧ (place s U (fun _ => -1, tl n s)).2 (s x) ≤ n := by
  obtain ⟨p1, _, _⟩ := place_ok (n := n) (s := s) U (List.nodup_cons.1 hn).2 (fun y hy => hl y (List.mem_cons_of_mem _ hy))
  have hb := buck_len (s := s) hn hl (s x)
  rw [zcd, List.length_cons] at hb
  have h2 := up_n (n := n) (s := s) (s x)
  rw [p1]
  unfold gs
  omega
end
end Go.Proofs.YtdifgiceallpiaaDoor.Sais
