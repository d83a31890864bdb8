/- Whether lengths may be (chapter 6), for later chapters. The program's side. -/
import Derived.Test.YtoikiefegkgedaaCom
import Derived.Test.YtoikiefegkgedaaPx1
set_option linter.unusedVariables false
set_option linter.unusedSimpArgs false
set_option linter.unusedSectionVars false
namespace Go.Proofs.Ytoikiefegkgedaa.Pure
open Go.RowKit Go.Proofs.YtoikiefegkgedaaW.PrintWords Go.Proofs.YtoikiefegkgedaaW.PrintMore Go.Proofs.Ytoikiefegkgedaa.P Go.Proofs.Ytoikiefegkgedaa.Com

/-! ### what is computed -/
def usedL : Int → List Int → Int
  | n, [] => n
  | n, x :: t => usedL (if 0 < x then n + 1 else n) t
/-- What a code adds. -/
def wt (n x : Int) : Int := if 1 ≤ x ∧ x ≤ n then 2 ^ (n - x).toNat else 0
def sumL (n : Int) : Int → List Int → Int
  | s, [] => s
  | s, x :: t => sumL n (s + wt n x) t
def Us (l : List Int) : Int := usedL 0 l
def Su (n : Int) (l : List Int) : Int := sumL n 0 l
/-- Why lengths may not be. -/
def chk (l : List Int) (n : Int) : Int :=
  if n < 1 ∨ 16 < n then 1 else if 1024 < l.length then 5 else if l.all (fun x => decide (0 ≤ x ∧ x ≤ n)) = false then 2
  else if Us l = 0 then 7 else if Us l = 1 then (if Su 1 l = 1 then 0 else 6) else if Su n l = 2 ^ n.toNat then 0 else 6

theorem wt_bd (n x : Int) (h : n ≤ 16) : 0 ≤ wt n x ∧ wt n x ≤ 32768 := by
  unfold wt
  split
  · rename_i hx
    have e : ∀ k : Nat, k ≤ 15 → (0 : Int) ≤ 2 ^ k ∧ (2 : Int) ^ k ≤ 32768 := by decide
    exact e _ (by omega)
  · omega

/-! ### the program's and the reference's loops -/
theorem used_ev (l : List Int) (hl : l.length ≤ 17592186044416) : Ev (fun k => kraft_Used.f k l) (Us l) := by
  have h := Ev.along l (fun k s i => kraft_Used.l0 k s l (l.length : Int) i) (fun s t => usedL s t) (fun i s => 0 ≤ s ∧ s ≤ i) ?_ ?_ 0 0 (Nat.zero_le _) (by omega)
  · exact h
  · intro s _
    refine Ev.step (f := fun _ => some s) (fun k => ?_) (Ev.now _)
    simp only [kraft_Used.l0]
    rw [if_neg (by omega)]
  · intro i s a t hs hd ha hlt ih
    refine Ev.step (f := fun k => kraft_Used.l0 k (if 0 < a then s + 1 else s) l (l.length : Int) ((i + 1 : Nat) : Int)) (fun k => ?_) (ih _ (by split <;> omega))
    simp only [kraft_Used.l0]
    rw [if_pos (by omega), if_pos (by omega), if_pos (by omega), rd_some ha, w64 (x := (i : Int) + 1) (by omega) (by omega), w64 (x := s + 1) (by omega) (by omega)]
    by_cases h : 0 < a <;> simp [h]

theorem bad_eq (n : Int) : kraft_bad.f n = some (decide (n < 1 ∨ 16 < n)) := by
  unfold kraft_bad.f
  by_cases h : n < 1
  · rw [if_pos h]; simp [h]
  · rw [if_neg h]; simp [h]

theorem sum_ev (l : List Int) (hl : l.length ≤ 17592186044416) (n : Int) (h1 : 1 ≤ n) (h2 : n ≤ 16) : Ev (fun k => kraft_Sum.f k l n) (Su n l) := by
  have h := Ev.along l (fun k s i => kraft_Sum.l0 k n s l (l.length : Int) i) (fun s t => sumL n s t) (fun i s => 0 ≤ s ∧ s ≤ i * 32768) ?_ ?_ 0 0 (Nat.zero_le _) (by omega)
  · refine Ev.congr (fun k => ?_) h
    unfold kraft_Sum.f
    rw [bad_eq]
    simp only [Option.bind_some]
    rw [if_neg (by simp; omega)]
    rfl
  · intro s _
    refine Ev.step (f := fun _ => some s) (fun k => ?_) (Ev.now _)
    simp only [kraft_Sum.l0]
    rw [if_neg (by omega)]
  · intro i s a t hs hd ha hlt ih
    have hw := wt_bd n a h2
    refine Ev.step (f := fun k => kraft_Sum.l0 k n (s + wt n a) l (l.length : Int) ((i + 1 : Nat) : Int)) (fun k => ?_) (ih _ (by omega))
    simp only [kraft_Sum.l0]
    rw [if_pos (by omega), if_pos (by omega), if_pos (by omega), rd_some ha, w64 (x := (i : Int) + 1) (by omega) (by omega)]
    by_cases ha1 : 1 ≤ a
    · by_cases ha2 : a ≤ n
      · rw [if_pos (by omega), if_pos ha2, w64 (x := n - a) (by omega) (by omega), if_pos (by omega), shl64 (by omega) (by omega)]
        have e : wt n a = 2 ^ (n - a).toNat := if_pos ⟨ha1, ha2⟩
        rw [← e, w64 (x := s + wt n a) (by omega) (by omega)]
        rfl
      · rw [if_pos (by omega), if_neg ha2]
        have e : wt n a = 0 := if_neg (by omega)
        rw [e, Int.add_zero]
        rfl
    · rw [if_neg (by omega)]
      have e : wt n a = 0 := if_neg (by omega)
      rw [e, Int.add_zero]
      rfl

/-- The sum, or 0 where the limit is none. -/
def Sq (n : Int) (l : List Int) : Int := if n < 1 ∨ 16 < n then 0 else Su n l

theorem sumq_ev (l : List Int) (hl : l.length ≤ 17592186044416) (n : Int) : Ev (fun k => kraft_Sum.f k l n) (Sq n l) := by
  unfold Sq
  by_cases h : n < 1 ∨ 16 < n
  · rw [if_pos h]
    refine Ev.congr (f := fun _ => some 0) (fun k => ?_) (Ev.now _)
    unfold kraft_Sum.f
    rw [bad_eq]
    simp only [Option.bind_some]
    rw [if_pos (by simpa using h)]
  · rw [if_neg h]
    exact sum_ev l hl n (by omega) (by omega)

def whole (l : List Int) (n : Int) : Bool := decide (¬ (n < 1 ∨ 16 < n) ∧ Su n l = 2 ^ n.toNat)

theorem whole_ev (l : List Int) (hl : l.length ≤ 17592186044416) (n : Int) : Ev (fun k => kraft_Whole.f k l n) (whole l n) := by
  unfold kraft_Whole.f
  rw [bad_eq]
  simp only [Option.bind_some]
  by_cases h : n < 1 ∨ 16 < n
  · refine Ev.ifp (by simpa using h) ?_
    have : whole l n = false := by simp only [whole]; exact decide_eq_false (fun h' => h'.1 h)
    rw [this]
    exact Ev.now _
  · refine Ev.ifn (by simpa using h) (Ev.bind (sum_ev l hl n (by omega) (by omega)) (Ev.ifp (by omega) ?_))
    rw [shl64 (by omega) (by omega)]
    refine Ev.some ?_
    simp only [whole]
    rw [Bool.eq_iff_iff]
    simp [h]

/-- Of lengths that are none too great: why they may not be. -/
def chk2 (l : List Int) (n : Int) : Int := if Us l = 0 then 7 else if Us l = 1 then (if Su 1 l = 1 then 0 else 6) else if Su n l = 2 ^ n.toNat then 0 else 6

theorem chk_j1 (l : List Int) (hl : l.length ≤ 17592186044416) (n : Int) (h1 : 1 ≤ n) (h2 : n ≤ 16) : Ev (fun k => kraft_Check.j1 k l n 0) (chk2 l n) := by
  refine Ev.step (f := fun k => (kraft_Used.f k l).bind fun t108 => (if t108 = 0 then (some 7) else (if t108 = 1 then ((kraft_Sum.f k l 1).bind fun t109 => (if t109 = 1 then (some 0) else (some 6))) else ((kraft_Whole.f k l n).bind fun t110 => (if t110 = true then (some 0) else (some 6)))))) (fun k => ?_) ?_
  · simp only [kraft_Check.j1]
    rfl
  · refine Ev.bind (used_ev l hl) ?_
    unfold chk2
    by_cases u0 : Us l = 0
    · exact Ev.ifp u0 (by rw [if_pos u0]; exact Ev.now _)
    · refine Ev.ifn u0 ?_
      rw [if_neg u0]
      by_cases u1 : Us l = 1
      · refine Ev.ifp u1 ?_
        rw [if_pos u1]
        refine Ev.bind (sum_ev l hl 1 (by omega) (by omega)) ?_
        by_cases s1 : Su 1 l = 1
        · refine Ev.ifp s1 ?_; rw [if_pos s1]; exact Ev.now _
        · refine Ev.ifn s1 ?_; rw [if_neg s1]; exact Ev.now _
      · refine Ev.ifn u1 ?_
        rw [if_neg u1]
        refine Ev.bind (whole_ev l hl n) ?_
        by_cases s1 : Su n l = 2 ^ n.toNat
        · rw [if_pos s1]
          exact Ev.ifp (by simp [whole, s1]; omega) (Ev.now _)
        · rw [if_neg s1]
          exact Ev.ifn (by simp [whole, s1]) (Ev.now _)

theorem chk_j1_bad (l : List Int) (n : Int) : Ev (fun k => kraft_Check.j1 k l n 2) 2 := by
  refine Ev.step (f := fun _ => some 2) (fun k => ?_) (Ev.now _)
  simp only [kraft_Check.j1]
  rfl

/-- Is a length no code's. -/
def okB (n x : Int) : Bool := decide (0 ≤ x ∧ x ≤ n)

theorem chk_ev (l : List Int) (hl : l.length ≤ 17592186044416) (n : Int) : Ev (fun k => kraft_Check.f k l n) (chk l n) := by
  unfold kraft_Check.f chk
  rw [bad_eq]
  simp only [Option.bind_some]
  by_cases h : n < 1 ∨ 16 < n
  · rw [if_pos h]
    exact Ev.ifp (by simpa using h) (Ev.now _)
  · rw [if_neg h]
    refine Ev.ifn (by simpa using h) ?_
    by_cases h5 : 1024 < l.length
    · rw [if_pos h5]
      exact Ev.ifp (by omega) (Ev.now _)
    · rw [if_neg h5]
      refine Ev.ifn (by omega) ?_
      have key := Ev.along l (fun k (_ : Unit) i => kraft_Check.l0 k l n 0 l (l.length : Int) i) (fun _ t => if t.all (okB n) = false then 2 else chk2 l n) (fun _ _ => True) ?_ ?_ 0 () (Nat.zero_le _) trivial
      · exact key
      · intro s _
        refine Ev.step (f := fun k => kraft_Check.j1 k l n 0) (fun k => ?_) (by simpa using chk_j1 l hl n (by omega) (by omega))
        simp only [kraft_Check.l0]
        rw [if_neg (by omega)]
      · intro i s a t _ hd ha hlt ih
        refine Ev.step (f := fun k => if a < 0 then kraft_Check.j1 k l n 2 else if a > n then kraft_Check.j1 k l n 2 else kraft_Check.l0 k l n 0 l (l.length : Int) ((i + 1 : Nat) : Int)) (fun k => ?_) ?_
        · simp only [kraft_Check.l0]
          rw [if_pos (by omega), if_pos (by omega), if_pos (by omega), rd_some ha, w64 (x := (i : Int) + 1) (by omega) (by omega)]
          rfl
        · by_cases a0 : a < 0
          · have e : okB n a = false := by simp [okB]; omega
            rw [if_pos (by simp [e])]
            exact Ev.ifp a0 (chk_j1_bad _ _)
          · by_cases a1 : a > n
            · have e : okB n a = false := by simp [okB]; omega
              rw [if_pos (by simp [e])]
              exact Ev.ifn a0 (Ev.ifp a1 (chk_j1_bad _ _))
            · have e : okB n a = true := by simp [okB]; omega
              have e2 : ((a :: t).all (okB n)) = t.all (okB n) := by simp [e]
              rw [e2]
              exact Ev.ifn a0 (Ev.ifn a1 (ih () trivial))

/-! ### one code alone -/
theorem usedL_add (l : List Int) : ∀ s, usedL s l = s + usedL 0 l := by
  induction l with
  | nil => intro s; simp [usedL]
  | cons x t ih =>
    intro s
    simp only [usedL]
    rw [ih, ih (if 0 < x then 0 + 1 else 0)]
    split <;> omega
theorem sumL_add (n : Int) (l : List Int) : ∀ s, sumL n s l = s + sumL n 0 l := by
  induction l with
  | nil => intro s; simp [sumL]
  | cons x t ih =>
    intro s
    simp only [sumL]
    rw [ih, ih (0 + wt n x)]
    omega
theorem Us_cons (x : Int) (t : List Int) : Us (x :: t) = (if 0 < x then 1 else 0) + Us t := by
  simp only [Us, usedL]
  rw [usedL_add]
  split <;> omega
theorem Su_cons (n x : Int) (t : List Int) : Su n (x :: t) = wt n x + Su n t := by
  simp only [Su, sumL]
  rw [sumL_add]
  omega
theorem Us_nil : Us [] = 0 := rfl
theorem Su_nil (n : Int) : Su n [] = 0 := rfl
theorem Us_nonneg (l : List Int) : 0 ≤ Us l := by
  induction l with
  | nil => simp [Us_nil]
  | cons x t ih => rw [Us_cons]; split <;> omega
theorem wt_neg {n x : Int} (h : x ≤ 0) : wt n x = 0 := if_neg (by omega)
theorem none_used (l : List Int) (h : Us l = 0) (n : Int) : Su n l = 0 := by
  induction l with
  | nil => rfl
  | cons x t ih =>
    rw [Us_cons] at h
    have := Us_nonneg t
    have hx : ¬ 0 < x := by intro hx; rw [if_pos hx] at h; omega
    rw [if_neg hx] at h
    rw [Su_cons, ih (by omega), wt_neg (by omega)]
    rfl
/-- Where one length is a code's, the sum is what that code adds. -/
theorem one_used (l : List Int) (h : Us l = 1) : ∃ x, 0 < x ∧ x ∈ l ∧ ∀ n, Su n l = wt n x := by
  induction l with
  | nil => simp [Us_nil] at h
  | cons x t ih =>
    rw [Us_cons] at h
    by_cases hx : 0 < x
    · rw [if_pos hx] at h
      exact ⟨x, hx, by simp, fun n => by rw [Su_cons, none_used t (by omega)]; omega⟩
    · rw [if_neg hx] at h
      obtain ⟨y, h1, h2, h3⟩ := ih (by omega)
      exact ⟨y, h1, by simp [h2], fun n => by rw [Su_cons, h3, wt_neg (by omega)]; omega⟩

theorem wt_one (x : Int) (hx : 0 < x) : wt 1 x = 1 ↔ x = 1 := by
  unfold wt
  constructor
  · intro h
    split at h
    · omega
    · omega
  · rintro rfl
    rfl
theorem pow_half (n : Nat) (h : 1 ≤ n) (h2 : n ≤ 16) : (2 : Int) ^ n / 2 = 2 ^ (n - 1) ∧ (2 : Int) ^ n = 2 * 2 ^ (n - 1) := by
  have : ∀ n : Nat, n ≤ 16 → 1 ≤ n → (2 : Int) ^ n / 2 = 2 ^ (n - 1) ∧ (2 : Int) ^ n = 2 * 2 ^ (n - 1) := by decide
  exact this n h2 h
theorem pow_inj (a b : Nat) (ha : a ≤ 16) (hb : b ≤ 16) : (2 : Int) ^ a = 2 ^ b ↔ a = b := by
  have : ∀ a : Nat, a ≤ 16 → ∀ b : Nat, b ≤ 16 → ((2 : Int) ^ a = 2 ^ b ↔ a = b) := by decide
  exact this a ha b hb
theorem wt_half (n x : Int) (h1 : 1 ≤ n) (h2 : n ≤ 16) (hx : 0 < x) (hn : x ≤ n) : wt n x = 2 ^ n.toNat / 2 ↔ x = 1 := by
  rw [(pow_half n.toNat (by omega) (by omega)).1]
  unfold wt
  rw [if_pos ⟨hx, hn⟩, pow_inj _ _ (by omega) (by omega)]
  omega

end Go.Proofs.Ytoikiefegkgedaa.Pure
