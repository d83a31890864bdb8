/- The plain laws of chapter 44 (chances). -/
import Derived.Test.YtmjhcklenleliaaCom
import Derived.Test.YtmjhcklenleliaaPx1
import Derived.Test.YtmjhcklenleliaaPx2
namespace Go.Proofs.Ytmjhcklenleliaa.Pure
open Go.RowKit Go.Proofs.YtmjhcklenleliaaW.PrintWords Go.Proofs.Ytmjhcklenleliaa.P Go.Proofs.Ytmjhcklenleliaa.Com

/-- A chance behind a bit. -/
def upd (p : Int) (b : Bool) : Int × Int := if p < 1 ∨ 2048 ≤ p then (0, 2) else if b then (p - p / 32, 0) else (p + (2048 - p) / 32, 0)

theorem upd_ev (p : Int) (b : Bool) : Ev (fun k => prob_Update.f k p b) (upd p b) := by
  unfold upd
  by_cases h1 : p < 1
  · rw [if_pos (Or.inl h1)]
    refine Ev.step (f := fun _ => some (0, 2)) (fun k => ?_) (Ev.now _)
    simp only [prob_Update.f]
    rw [if_pos h1]
    simp only [prob_Update.j0]
    rfl
  · by_cases h2 : 2048 ≤ p
    · rw [if_pos (Or.inr h2)]
      refine Ev.step (f := fun _ => some (0, 2)) (fun k => ?_) (Ev.now _)
      simp only [prob_Update.f]
      rw [if_neg h1]
      simp only [prob_Update.j0]
      rw [if_pos (by simpa using h2)]
    · rw [if_neg (by omega)]
      refine Ev.step (f := fun _ => some (if b then (p - p / 32, 0) else (p + (2048 - p) / 32, 0))) (fun k => ?_) (Ev.now _)
      simp only [prob_Update.f]
      rw [if_neg h1]
      simp only [prob_Update.j0]
      rw [if_neg (by simpa using h2)]
      have e1 : wrap64 (p - p / 32) = p - p / 32 := w64 (by omega) (by omega)
      have e2 : wrap64 (2048 - p) = 2048 - p := w64 (by omega) (by omega)
      rw [e2]
      have e3 : wrap64 (p + (2048 - p) / 32) = p + (2048 - p) / 32 := w64 (by omega) (by omega)
      rw [e1, e3]
      cases b <;> rfl

theorem ref_upd (p : Int) (b : Bool) : gladstoneref44_Update.f p b = some (upd p b) := by
  unfold upd gladstoneref44_Update.f gladstoneref44_Fits.f
  by_cases h1 : p < 1
  · rw [if_pos (Or.inl h1), if_neg (by omega)]
    rfl
  · rw [if_pos (by omega)]
    simp only [Option.bind_some]
    by_cases h2 : 2048 ≤ p
    · rw [if_pos (show p < 1 ∨ 2048 ≤ p from Or.inr h2), if_neg (show ¬ decide (p ≤ 2047) = true by simp; omega)]
    · rw [if_neg (show ¬ (p < 1 ∨ 2048 ≤ p) by omega), if_pos (show decide (p ≤ 2047) = true by simp; omega)]
      have e0 : Int.tdiv p 32 = p / 32 := Int.tdiv_eq_ediv_of_nonneg (by omega)
      have e0' : wrap64 (p / 32) = p / 32 := w64 (by omega) (by omega)
      have e1 : wrap64 (p - p / 32) = p - p / 32 := w64 (by omega) (by omega)
      have e2 : wrap64 (2048 - p) = 2048 - p := w64 (by omega) (by omega)
      have e4 : Int.tdiv (2048 - p) 32 = (2048 - p) / 32 := Int.tdiv_eq_ediv_of_nonneg (by omega)
      have e5 : wrap64 ((2048 - p) / 32) = (2048 - p) / 32 := w64 (by omega) (by omega)
      have e3 : wrap64 (p + (2048 - p) / 32) = p + (2048 - p) / 32 := w64 (by omega) (by omega)
      rw [e0, e0', e1, e2, e4, e5, e3]
      cases b <;> rfl

/-- The chances ahead of bits. -/
def ahead : Int → List Bool → List Int
  | _, [] => []
  | p, b :: l => p :: ahead (upd p b).1 l

theorem ahead_l0 (l : List Bool) (hl : l.length ≤ 17592186044416) (s : List Bool) : ∀ (i : Nat) (out : List Int) (p : Int), l.drop i = s → out.length = i → i ≤ l.length →
    Ev (fun k => prob_ahead.l0 k out p l (l.length : Int) (i : Int)) (out ++ ahead p s) := by
  induction s with
  | nil =>
    intro i out p hd ho hi
    have : l.length ≤ i := List.drop_eq_nil_iff.1 hd
    refine Ev.step (f := fun _ => some out) (fun k => ?_) (by simpa [ahead] using Ev.now out)
    simp only [prob_ahead.l0]
    rw [if_neg (by omega)]
  | cons b s ih =>
    intro i out p hd ho hi
    have hlt : i < l.length := by
      refine Nat.lt_of_not_le fun h => ?_
      rw [List.drop_eq_nil_of_le h] at hd
      cases hd
    have hb : l.getD i false = b := by
      have := congrArg List.head? hd
      rw [List.head?_drop] at this
      simp [this]
    have hd' : l.drop (i + 1) = s := by
      have := congrArg List.tail hd
      simpa using this
    refine Ev.step (f := fun k => (prob_Update.f k p b).bind fun bt => prob_ahead.l0 k (out ++ [p]) bt.1 l (l.length : Int) ((i + 1 : Nat) : Int)) (fun k => ?_) ?_
    · simp only [prob_ahead.l0]
      rw [if_pos (by omega), if_pos (by omega), if_pos (by omega), if_pos (by omega), rdOf_nat, hb, w64 (by omega) (by omega)]
      rfl
    · refine Ev.bind (upd_ev p b) ?_
      have := ih (i + 1) (out ++ [p]) (upd p b).1 hd' (by simp [ho]) (by omega)
      simpa [ahead] using this

theorem of_ev (l : List Bool) (hl : l.length ≤ 17592186044416) : Ev (fun k => prob_Of.f k l) (ahead 1024 l) := by
  have h := ahead_l0 l hl l 0 [] 1024 rfl rfl (Nat.zero_le _)
  refine Ev.bind (f := fun _ t => some t) (a := ahead 1024 l) ?_ (Ev.now _)
  simpa [prob_ahead.f] using h

theorem ref_of_l0 (l : List Bool) (hl : l.length ≤ 500) (s : List Bool) : ∀ (i : Nat) (out : List Int) (p : Int), l.drop i = s → out.length = i → i ≤ l.length →
    Ev (fun k => gladstoneref44_Of.l0 k l p out (i : Int)) (out ++ ahead p s) := by
  induction s with
  | nil =>
    intro i out p hd ho hi
    have : l.length ≤ i := List.drop_eq_nil_iff.1 hd
    refine Ev.step (f := fun _ => some out) (fun k => ?_) (by simpa [ahead] using Ev.now out)
    simp only [gladstoneref44_Of.l0]
    rw [if_neg (by omega)]
  | cons b s ih =>
    intro i out p hd ho hi
    have hlt : i < l.length := by
      refine Nat.lt_of_not_le fun h => ?_
      rw [List.drop_eq_nil_of_le h] at hd
      cases hd
    have hb : l.getD i false = b := by
      have := congrArg List.head? hd
      rw [List.head?_drop] at this
      simp [this]
    have hd' : l.drop (i + 1) = s := by
      have := congrArg List.tail hd
      simpa using this
    refine Ev.step (f := fun k => gladstoneref44_Of.l0 k l (upd p b).1 (out ++ [p]) ((i + 1 : Nat) : Int)) (fun k => ?_) ?_
    · simp only [gladstoneref44_Of.l0]
      rw [if_pos (by omega), if_pos (by omega), if_pos (by omega), rdOf_nat, hb, ref_upd, w64 (by omega) (by omega)]
      rfl
    · have := ih (i + 1) (out ++ [p]) (upd p b).1 hd' (by simp [ho]) (by omega)
      simpa [ahead] using this

theorem ref_of_ev (l : List Bool) (hl : l.length ≤ 500) : Ev (fun k => gladstoneref44_Of.f k l) (ahead 1024 l) := by
  simpa [gladstoneref44_Of.f] using ref_of_l0 l hl l 0 [] 1024 rfl rfl (Nat.zero_le _)

theorem ahead_length (l : List Bool) : ∀ p, (ahead p l).length = l.length := by
  induction l with
  | nil => intro p; rfl
  | cons b l ih => intro p; simp [ahead, ih]

theorem ints_l0 (l : List Int) (hl : l.length ≤ 140737488355328) (d : Nat) : ∀ i : Nat, i + d = l.length → Ev (fun k => gladstoneref08_Ints.l0 k l l (i : Int)) true := by
  induction d with
  | zero =>
    intro i hi
    refine Ev.step (f := fun _ => some true) (fun k => ?_) (Ev.now _)
    simp only [gladstoneref08_Ints.l0]
    rw [if_neg (by omega)]
  | succ d ih =>
    intro i hi
    refine Ev.step (f := fun k => gladstoneref08_Ints.l0 k l l ((i + 1 : Nat) : Int)) (fun k => ?_) (ih (i + 1) (by omega))
    simp only [gladstoneref08_Ints.l0]
    rw [if_pos (by omega), if_pos (by omega), if_pos (by omega)]
    simp only [if_true]
    rw [w64 (by omega) (by omega)]
    rfl

theorem ints_ev (l : List Int) (hl : l.length ≤ 140737488355328) : Ev (fun k => gladstoneref08_Ints.f k l l) true := by
  simpa [gladstoneref08_Ints.f] using ints_l0 l hl l.length 0 (by omega)

theorem awake_ev : Ev (fun k => gladstonelaw44_awake.f k) true := Ev.of (fun k => gladstonelaw44_awake.mono k) (k := 10) (by decide +kernel)

theorem updates_l0 (p : Int) (l : List Bool) (hl : l.length ≤ 500) : Ev (fun k => gladstonelaw44_ProbUpdates.l0 k p l 2) true := by
  refine Ev.step (f := fun k => (prob_Of.f k l).bind fun t139 => (gladstoneref44_Of.f k l).bind fun t142 => (gladstoneref08_Ints.f k t139 t142).bind fun t145 => if t145 = true then (gladstonelaw44_awake.f k).bind fun t146 => some t146 else some false) (fun k => ?_) ?_
  · simp only [gladstonelaw44_ProbUpdates.l0]
    rw [if_neg (by omega)]
  · refine Ev.bind (of_ev l (by omega)) ?_
    refine Ev.bind (ref_of_ev l hl) ?_
    refine Ev.bind (ints_ev _ (by rw [ahead_length]; omega)) ?_
    simp only [if_true]
    exact Ev.bind (f := fun _ t => some t) awake_ev (Ev.now _)

theorem updates_round (p : Int) (l : List Bool) (i : Int) (h0 : 0 ≤ i) (h : i < 2) (next : Ev (fun k => gladstonelaw44_ProbUpdates.l0 k p l (i + 1)) true) : Ev (fun k => gladstonelaw44_ProbUpdates.l0 k p l i) true := by
  refine Ev.step (f := fun k => (prob_Update.f k p (i == 1)).bind fun bt => if bt.1 = (upd p (i == 1)).1 then if bt.2 = (upd p (i == 1)).2 then gladstonelaw44_ProbUpdates.l0 k p l (i + 1) else some false else some false) (fun k => ?_) ?_
  · simp only [gladstonelaw44_ProbUpdates.l0]
    rw [if_pos h, ref_upd, w64 (by omega) (by omega)]
    rfl
  · refine Ev.bind (upd_ev _ _) ?_
    simp only [if_true]
    exact next

theorem ProbUpdates (p : Int) (_ : (Lit.int .i64 p).wf = true) (l : List Bool) (_ : l.length ≤ 140737488351232) : ∃ k, gladstonelaw44_ProbUpdates.f k p l = some true := by
  apply Ev.rounds
  by_cases h : l.length > 500
  · refine Ev.congr (f := fun k => (gladstonelaw44_awake.f k).bind fun t => some t) (fun k => ?_) (Ev.bind (f := fun _ t => some t) awake_ev (Ev.now _))
    simp only [gladstonelaw44_ProbUpdates.f]
    rw [if_pos (by omega)]
  · refine Ev.congr (f := fun k => gladstonelaw44_ProbUpdates.l0 k p l 0) (fun k => ?_) ?_
    · simp only [gladstonelaw44_ProbUpdates.f]
      rw [if_neg (by omega)]
    · exact updates_round p l 0 (by omega) (by omega) (updates_round p l 1 (by omega) (by omega) (updates_l0 p l (by omega)))

theorem upd_in (p : Int) (b : Bool) (h1 : 31 ≤ p) (h2 : p ≤ 2017) : (upd p b).2 = 0 ∧ 31 ≤ (upd p b).1 ∧ (upd p b).1 ≤ 2017 ∧ (b = true → (upd p b).1 ≤ p) ∧ (b = false → p ≤ (upd p b).1) := by
  unfold upd
  rw [if_neg (by omega)]
  cases b <;> simp <;> omega

theorem stays_l0 (l : List Bool) (hl : l.length ≤ 2000) (d : Nat) : ∀ (i : Nat) (p : Int), i + d = l.length → 31 ≤ p → p ≤ 2017 → Ev (fun k => gladstonelaw44_ProbStays.l0 k l p (i : Int)) true := by
  induction d with
  | zero =>
    intro i p hi _ _
    refine Ev.step (f := fun k => (gladstonelaw44_awake.f k).bind fun t => some t) (fun k => ?_) (Ev.bind (f := fun _ t => some t) awake_ev (Ev.now _))
    simp only [gladstonelaw44_ProbStays.l0]
    rw [if_neg (by omega)]
  | succ d ih =>
    intro i p hi h1 h2
    obtain ⟨u1, u2, u3, u4, u5⟩ := upd_in p (l.getD i false) h1 h2
    refine Ev.step (f := fun k => (prob_Update.f k p (l.getD i false)).bind fun bt130 => (if bt130.2 = 0 then (if bt130.1 < 31 then (some false) else (if bt130.1 > 2017 then (some false) else (if l.getD i false = true then (if bt130.1 > p then (some false) else (gladstonelaw44_ProbStays.l0 k l bt130.1 ((i + 1 : Nat) : Int))) else (if bt130.1 < p then (some false) else (gladstonelaw44_ProbStays.l0 k l bt130.1 ((i + 1 : Nat) : Int)))))) else (some false))) (fun k => ?_) ?_
    · simp only [gladstonelaw44_ProbStays.l0]
      rw [if_pos (by omega), if_pos (by omega), rdOf_nat, w64 (by omega) (by omega)]
      rfl
    · refine Ev.bind (upd_ev _ _) ?_
      refine Ev.ifp u1 (Ev.ifn (by omega) (Ev.ifn (by omega) ?_))
      have := ih (i + 1) (upd p (l.getD i false)).1 (by omega) u2 u3
      by_cases hb : l.getD i false = true
      · exact Ev.ifp hb (Ev.ifn (by have := u4 hb; omega) this)
      · exact Ev.ifn hb (Ev.ifn (by have := u5 (by simpa using hb); omega) this)

theorem ProbStays (l : List Bool) (_ : l.length ≤ 140737488351232) : ∃ k, gladstonelaw44_ProbStays.f k l = some true := by
  apply Ev.rounds
  by_cases h : l.length > 2000
  · refine Ev.congr (f := fun k => (gladstonelaw44_awake.f k).bind fun t => some t) (fun k => ?_) (Ev.bind (f := fun _ t => some t) awake_ev (Ev.now _))
    simp only [gladstonelaw44_ProbStays.f]
    rw [if_pos (by omega)]
  · refine Ev.congr (f := fun k => gladstonelaw44_ProbStays.l0 k l 1024 0) (fun k => ?_) (stays_l0 l (by omega) l.length 0 1024 (by omega) (by omega) (by omega))
    simp only [gladstonelaw44_ProbStays.f]
    rw [if_neg (by omega)]
    rfl
end Go.Proofs.Ytmjhcklenleliaa.Pure
