/- The plain laws of chapter 49 (runs of noughts). -/
import Derived.Test.YtnbnfpmbdnopaaaCom
import Derived.Test.YtnbnfpmbdnopaaaPx3
import Derived.Test.YtnbnfpmbdnopaaaPx4
namespace Go.Proofs.Ytnbnfpmbdnopaaa.Pure
open Go.RowKit Go.Proofs.YtnbnfpmbdnopaaaW.PrintWords Go.Proofs.YtnbnfpmbdnopaaaW.PrintMore Go.Proofs.Ytnbnfpmbdnopaaa.P Go.Proofs.Ytnbnfpmbdnopaaa.Com

/-! ### what is computed -/
/-- A number by twos, with the signs 0 and 1. -/
def rn (n : Nat) : List Int := if h : n = 0 then [] else (((n - 1) % 2 : Nat) : Int) :: rn ((n - 1) / 2)
termination_by n
decreasing_by omega

theorem rn_zero : rn 0 = [] := by rw [rn]; simp
theorem rn_pos (n : Nat) (h : 0 < n) : rn n = (((n - 1) % 2 : Nat) : Int) :: rn ((n - 1) / 2) := by
  rw [rn]; simp [Nat.ne_of_gt h]
theorem rn_length (n : Nat) : (rn n).length ≤ n := by
  induction n using Nat.strongRecOn with
  | _ n ih =>
    by_cases h : n = 0
    · subst h; simp [rn_zero]
    · rw [rn_pos n (by omega), List.length_cons]
      have := ih ((n - 1) / 2) (by omega)
      omega

/-- Signs of numbers, so many noughts being open. -/
def sg : Nat → List Int → List Int
  | n, [] => rn n
  | n, x :: t => if x = 0 then sg (n + 1) t else rn n ++ (x + 1) :: sg 0 t
def okN (x : Int) : Bool := decide (0 ≤ x ∧ x ≤ 1048576)
def pack (l : List Int) : List Int × Int := if l.all okN then (sg 0 l, 0) else ([], 2)
def okS (x : Int) : Bool := decide (0 ≤ x ∧ x ≤ 1048577)
def up : List Int → Nat → List Int → List Int × Int
  | out, _, [] => (out, 0)
  | out, w, x :: t =>
    if x ≤ 1 then (if w * (x.toNat + 1) + out.length ≤ 1048576 then up (out ++ List.replicate (w * (x.toNat + 1)) 0) (2 * w) t else ([], 5))
    else if 1 + out.length ≤ 1048576 then up (out ++ [x - 1]) 1 t else ([], 5)
def unpack (l : List Int) : List Int × Int := if l.all okS then up [] 1 l else ([], 2)

theorem sg_length (l : List Int) : ∀ n, (sg n l).length ≤ n + l.length := by
  induction l with
  | nil => intro n; simpa [sg] using rn_length n
  | cons x t ih =>
    intro n
    simp only [sg]
    split
    · have := ih (n + 1); simp only [List.length_cons]; omega
    · have := ih 0; have := rn_length n; simp only [List.length_append, List.length_cons]; omega

/-! ### runs -/
theorem run_ev (n : Nat) (hn : n ≤ 17592186044415) : ∀ (out : List Int), out.length + n ≤ 17592186044415 → Ev (fun k => zeros_run.l0 k out (n : Int)) (out ++ rn n) := by
  induction n using Nat.strongRecOn with
  | _ n ih =>
    intro out ho
    by_cases h : n = 0
    · subst h
      refine Ev.step (f := fun _ => some out) (fun k => ?_) (by rw [rn_zero, List.append_nil]; exact Ev.now _)
      simp only [zeros_run.l0]
      rw [if_neg (by omega)]
    · rw [rn_pos n (by omega)]
      refine Ev.step (f := fun k => zeros_run.l0 k (out ++ [(((n - 1) % 2 : Nat) : Int)]) (((n - 1) / 2 : Nat) : Int)) (fun k => ?_) ?_
      · simp only [zeros_run.l0]
        rw [if_pos (by omega), if_pos (by omega), w64 (x := (n : Int) - 1) (by omega) (by omega), Int.tmod_eq_emod_of_nonneg (by omega), Int.tdiv_eq_ediv_of_nonneg (by omega), w64 (x := ((n : Int) - 1) / 2) (by omega) (by omega)]
        have e1 : ((n : Int) - 1) % 2 = (((n - 1) % 2 : Nat) : Int) := by omega
        have e2 : ((n : Int) - 1) / 2 = (((n - 1) / 2 : Nat) : Int) := by omega
        rw [e1, e2]
      · have := ih ((n - 1) / 2) (by omega) (by omega) (out ++ [(((n - 1) % 2 : Nat) : Int)]) (by simp; omega)
        simpa using this

theorem rrun_ev (n : Nat) (hn : n ≤ 17592186044415) : ∀ (out : List Int), out.length + n ≤ 17592186044415 → Ev (fun k => gladstoneref49_run.l0 k (n : Int) out) (out ++ rn n) := by
  induction n using Nat.strongRecOn with
  | _ n ih =>
    intro out ho
    by_cases h : n = 0
    · subst h
      refine Ev.step (f := fun _ => some out) (fun k => ?_) (by rw [rn_zero, List.append_nil]; exact Ev.now _)
      simp only [gladstoneref49_run.l0]
      rw [if_neg (by omega)]
    · rw [rn_pos n (by omega)]
      refine Ev.step (f := fun k => gladstoneref49_run.l0 k (((n - 1) / 2 : Nat) : Int) (out ++ [(((n - 1) % 2 : Nat) : Int)])) (fun k => ?_) ?_
      · simp only [gladstoneref49_run.l0]
        rw [if_pos (by omega), if_pos (by omega), w64 (x := (n : Int) - 1) (by omega) (by omega), Int.tmod_eq_emod_of_nonneg (by omega), w64 (x := (n : Int) - 1 - ((n : Int) - 1) % 2) (by omega) (by omega), Int.tdiv_eq_ediv_of_nonneg (by omega), w64 (x := ((n : Int) - 1 - ((n : Int) - 1) % 2) / 2) (by omega) (by omega)]
        have e1 : ((n : Int) - 1) % 2 = (((n - 1) % 2 : Nat) : Int) := by omega
        have e2 : ((n : Int) - 1 - ((n : Int) - 1) % 2) / 2 = (((n - 1) / 2 : Nat) : Int) := by omega
        rw [e2, e1]
      · have := ih ((n - 1) / 2) (by omega) (by omega) (out ++ [(((n - 1) % 2 : Nat) : Int)]) (by simp; omega)
        simpa using this

/-! ### packing -/
theorem pack_ev (l : List Int) (hl : l.length ≤ 1048576) : Ev (fun k => zeros_Pack.f k l) (pack l) := by
  have h := Ev.along l (fun k (s : List Int × Nat) i => zeros_Pack.l0 k s.1 (s.2 : Int) l (l.length : Int) i) (fun s t => if t.all okN then (s.1 ++ sg s.2 t, 0) else ([], 2)) (fun i s => s.1.length + s.2 ≤ i) ?_ ?_ 0 ([], 0) (Nat.zero_le _) (by simp)
  · simpa [pack, zeros_Pack.f] using h
  · rintro ⟨out, n⟩ hs
    dsimp only at hs ⊢
    refine Ev.step (f := fun k => (zeros_run.f k out (n : Int)).bind fun t => some (t, 0)) (fun k => ?_) ?_
    · simp only [zeros_Pack.l0]
      rw [if_neg (by omega)]
    · refine Ev.bind (f := fun _ t => some (t, (0 : Int))) (a := out ++ rn n) ?_ ?_
      · exact run_ev n (by omega) out (by omega)
      · simpa [sg] using Ev.now (out ++ rn n, (0 : Int))
  · rintro i ⟨out, n⟩ a t hs hd ha hlt ih
    dsimp only at hs ih ⊢
    refine Ev.step (f := fun k => zeros_Pack.j1 k out (n : Int) a l (l.length : Int) (i : Int) (decide (a < 0 ∨ 1048576 < a))) (fun k => ?_) ?_
    · simp only [zeros_Pack.l0]
      rw [if_pos (by omega), if_pos (by omega), if_pos (by omega), rd_some ha]
      by_cases a0 : a < 0
      · rw [if_pos a0, decide_eq_true (by omega)]
      · rw [if_neg a0]
        congr 1
        rw [Bool.eq_iff_iff]; simp; omega
    · by_cases hb : a < 0 ∨ 1048576 < a
      · have e : okN a = false := by simp [okN]; omega
        rw [List.all_cons, e, Bool.false_and, if_neg (by simp)]
        refine Ev.step (f := fun _ => some ([], 2)) (fun k => ?_) (Ev.now _)
        simp only [zeros_Pack.j1]
        rw [if_pos (by simpa using hb)]
      · have e : okN a = true := by simp [okN]; omega
        rw [List.all_cons, e, Bool.true_and]
        by_cases a0 : a = 0
        · have := ih (out, n + 1) (by dsimp only; omega)
          have e0 : sg n (a :: t) = sg (n + 1) t := by simp only [sg]; rw [if_pos a0]
          rw [e0]
          refine Ev.step (fun k => ?_) this
          simp only [zeros_Pack.j1]
          rw [if_neg (show ¬ decide (a < 0 ∨ 1048576 < a) = true by simp; omega), if_pos a0, w64 (x := (n : Int) + 1) (by omega) (by omega), w64 (x := (i : Int) + 1) (by omega) (by omega)]
          rfl
        · have hr := rn_length n
          have := ih (out ++ rn n ++ [a + 1], 0) (by simp; omega)
          have e0 : sg n (a :: t) = rn n ++ (a + 1) :: sg 0 t := by simp only [sg]; rw [if_neg a0]
          rw [e0]
          refine Ev.step (f := fun k => (zeros_run.f k out (n : Int)).bind fun t108 => (if t108.length < 17592186044416 then (zeros_Pack.l0 k (t108 ++ [a + 1]) 0 l (l.length : Int) ((i + 1 : Nat) : Int)) else (none))) (fun k => ?_) ?_
          · simp only [zeros_Pack.j1]
            rw [if_neg (show ¬ decide (a < 0 ∨ 1048576 < a) = true by simp; omega), if_neg a0, w64 (x := a + 1) (by omega) (by omega), w64 (x := (i : Int) + 1) (by omega) (by omega)]
            rfl
          · refine Ev.bind (a := out ++ rn n) (run_ev n (by omega) out (by omega)) (Ev.ifp (by simp; omega) ?_)
            simpa using this

theorem all_mem {p : Int → Bool} {l : List Int} {i : Nat} {a : Int} (h : l.all p = true) (ha : l[i]? = some a) : p a = true := List.all_eq_true.1 h a (List.mem_of_getElem? ha)

/-- A first loop that only looks: what it answers where a number is bad, and what comes behind it. -/
theorem looks {ρ : Type} (l : List Int) (p : Int → Bool) (g : Nat → Int → Option ρ) (h : Nat → Option ρ) (bad good : ρ)
    (end_ : ∀ k, g (k + 1) (l.length : Int) = h k) (next : ∀ k (i : Nat) a, l[i]? = some a → i < l.length → g (k + 1) (i : Int) = if p a then g k ((i + 1 : Nat) : Int) else some bad)
    (hh : l.all p = true → Ev h good) : Ev (fun k => g k 0) (if l.all p then good else bad) := by
  have key := Ev.along l (fun k (_ : Unit) i => g k i) (fun _ t => if t.all p = true ∧ l.all p = true then good else bad) (fun i _ => (l.take i).all p = true) ?_ ?_ 0 () (Nat.zero_le _) (by simp)
  · have e : (if l.all p then good else bad) = (if l.all p = true ∧ l.all p = true then good else bad) := by cases l.all p <;> simp
    rw [e]
    exact key
  · intro s hs
    rw [List.take_length] at hs
    simp only [List.all_nil, hs, and_self, if_true]
    exact Ev.step end_ (hh hs)
  · intro i s a t hs hd ha hlt ih
    cases e : p a with
    | false =>
      refine Ev.step (f := fun _ => some bad) (fun k => ?_) (Ev.some ?_)
      · rw [next k i a ha hlt, e]; rfl
      · simp [e]
    | true =>
      have := ih () (by rw [List.take_add_one, ha]; simp [hs, e])
      simp only [List.all_cons, e, Bool.true_and]
      refine Ev.step (fun k => ?_) this
      rw [next k i a ha hlt, e]
      rfl

theorem rpack_l1 (l : List Int) (hl : l.length ≤ 1048576) (hok : l.all okN = true) : Ev (fun k => gladstoneref49_Pack.l1 k l [] 0 0) (sg 0 l, 0) := by
  have h := Ev.along l (fun k (s : List Int × Nat) i => gladstoneref49_Pack.l1 k l s.1 (s.2 : Int) i) (fun s t => (s.1 ++ sg s.2 t, 0)) (fun i s => s.1.length + s.2 ≤ i) ?_ ?_ 0 ([], 0) (Nat.zero_le _) (by simp)
  · simpa using h
  · rintro ⟨out, n⟩ hs
    dsimp only at hs ⊢
    have hr := rn_length n
    refine Ev.step (f := fun k => (gladstoneref49_run.f k (n : Int)).bind fun t174 => (if out.length + t174.length < 17592186044416 then (some ((out ++ t174), 0)) else (none))) (fun k => ?_) ?_
    · simp only [gladstoneref49_Pack.l1]
      rw [if_neg (by omega)]
    · refine Ev.bind (a := rn n) (by simpa [gladstoneref49_run.f] using rrun_ev n (by omega) [] (by simp; omega)) (Ev.ifp (by omega) ?_)
      simpa [sg] using Ev.now (out ++ rn n, (0 : Int))
  · rintro i ⟨out, n⟩ a t hs hd ha hlt ih
    dsimp only at hs ih ⊢
    have hr := rn_length n
    have hb := all_mem hok ha
    simp [okN] at hb
    by_cases a0 : a = 0
    · have := ih (out, n + 1) (by dsimp only; omega)
      have e0 : sg n (a :: t) = sg (n + 1) t := by simp only [sg]; rw [if_pos a0]
      rw [e0]
      refine Ev.step (fun k => ?_) this
      simp only [gladstoneref49_Pack.l1]
      rw [if_pos (by omega), if_pos (by omega), rd_some ha, if_pos a0, w64 (x := (n : Int) + 1) (by omega) (by omega), w64 (x := (i : Int) + 1) (by omega) (by omega)]
      rfl
    · have := ih (out ++ rn n ++ [a + 1], 0) (by simp; omega)
      have e0 : sg n (a :: t) = rn n ++ (a + 1) :: sg 0 t := by simp only [sg]; rw [if_neg a0]
      rw [e0]
      refine Ev.step (f := fun k => (gladstoneref49_run.f k (n : Int)).bind fun t164 => (if out.length + t164.length < 17592186044416 then ((some (out ++ t164 : List Int)).bind fun y167 => (if y167.length < 17592186044416 then (gladstoneref49_Pack.l1 k l (y167 ++ [a + 1]) 0 ((i + 1 : Nat) : Int)) else (none))) else (none))) (fun k => ?_) ?_
      · simp only [gladstoneref49_Pack.l1]
        rw [if_pos (by omega), if_pos (by omega), rd_some ha, if_neg a0, w64 (x := a + 1) (by omega) (by omega), w64 (x := (i : Int) + 1) (by omega) (by omega)]
        rfl
      · refine Ev.bind (a := rn n) (by simpa [gladstoneref49_run.f] using rrun_ev n (by omega) [] (by simp; omega)) (Ev.ifp (by omega) ?_)
        simp only [Option.bind_some]
        refine Ev.ifp (by simp; omega) ?_
        simpa using this

theorem rpack_ev (l : List Int) (hl : l.length ≤ 1048576) : Ev (fun k => gladstoneref49_Pack.f k l) (pack l) := by
  refine looks l okN (fun k i => gladstoneref49_Pack.l0 k l i) (fun k => gladstoneref49_Pack.l1 k l [] 0 0) ([], 2) (sg 0 l, 0) (fun k => ?_) (fun k i a ha hlt => ?_) (rpack_l1 l hl)
  · simp only [gladstoneref49_Pack.l0]
    rw [if_neg (by omega)]
  · simp only [gladstoneref49_Pack.l0]
    rw [if_pos (by omega), if_pos (by omega), rd_some ha, w64 (x := (i : Int) + 1) (by omega) (by omega)]
    by_cases a0 : a < 0
    · have e : okN a = false := by simp [okN]; omega
      rw [if_pos a0, e]; rfl
    · by_cases a1 : a > 1048576
      · have e : okN a = false := by simp [okN]; omega
        rw [if_neg a0, if_pos a1, e]; rfl
      · have e : okN a = true := by simp [okN]; omega
        rw [if_neg a0, if_neg a1, e]; rfl

/-! ### unpacking -/
theorem check_ev (l : List Int) (hl : l.length ≤ 17592186044416) : Ev (fun k => zeros_check.f k l) (if l.all okS then 0 else 2) := by
  refine looks l okS (fun k i => zeros_check.l0 k l (l.length : Int) i) (fun _ => some 0) 2 0 (fun k => ?_) (fun k i a ha hlt => ?_) (fun _ => Ev.now _)
  · simp only [zeros_check.l0]
    rw [if_neg (by omega)]
  · simp only [zeros_check.l0]
    rw [if_pos (by omega), if_pos (by omega), if_pos (by omega), rd_some ha, w64 (x := (i : Int) + 1) (by omega) (by omega)]
    by_cases a0 : a < 0
    · have e : okS a = false := by simp [okS]; omega
      rw [if_pos a0, e]; rfl
    · by_cases a1 : a > 1048577
      · have e : okS a = false := by simp [okS]; omega
        rw [if_neg a0, if_pos a1, e]; rfl
      · have e : okS a = true := by simp [okS]; omega
        rw [if_neg a0, if_neg a1, e]; rfl

theorem fill_l1 (x6 x10 : Int) (l : List Int) (n x18 : Int) (m : Nat) (r : List Int × Int) (d : Nat) : ∀ (c : Nat) (out : List Int), c + d = m → out.length + d ≤ 1048576 → m ≤ 1048576 →
    Ev (fun k => zeros_Unpack.l0 k (out ++ List.replicate d x10) x6 l n (wrap64 (x18 + 1))) r → Ev (fun k => zeros_Unpack.l1 k out x6 x10 l n x18 (m : Int) (c : Int)) r := by
  induction d with
  | zero =>
    intro c out hc ho hm h
    refine Ev.step (fun k => ?_) h
    simp only [zeros_Unpack.l1]
    rw [if_neg (by omega)]
    simp
  | succ d ih =>
    intro c out hc ho hm h
    refine Ev.step (f := fun k => zeros_Unpack.l1 k (out ++ [x10]) x6 x10 l n x18 (m : Int) ((c + 1 : Nat) : Int)) (fun k => ?_) (ih (c + 1) (out ++ [x10]) (by omega) (by simp; omega) hm (by simpa [List.replicate_succ] using h))
    simp only [zeros_Unpack.l1]
    rw [if_pos (by omega), if_pos (by omega), w64 (x := (c : Int) + 1) (by omega) (by omega)]
    rfl

theorem up_j1 (out l : List Int) (n : Int) (i many : Nat) (x6 x10 : Int) (r : List Int × Int) (ho : out.length ≤ 1048576) (hi : i ≤ 1048576)
    (h : many + out.length ≤ 1048576 → Ev (fun k => zeros_Unpack.l0 k (out ++ List.replicate many x10) x6 l n ((i + 1 : Nat) : Int)) r) :
    Ev (fun k => zeros_Unpack.j1 k out x6 (many : Int) x10 l n (i : Int)) (if many + out.length ≤ 1048576 then r else ([], 5)) := by
  by_cases hm : many + out.length ≤ 1048576
  · rw [if_pos hm]
    refine Ev.step (f := fun k => zeros_Unpack.l1 k out x6 x10 l n (i : Int) (many : Int) ((0 : Nat) : Int)) (fun k => ?_) (fill_l1 x6 x10 l n (i : Int) many r many 0 out (by omega) (by omega) (by omega) ?_)
    · simp only [zeros_Unpack.j1]
      rw [w64 (x := 1048576 - (out.length : Int)) (by omega) (by omega), if_neg (by omega)]
      rfl
    · rw [w64 (x := (i : Int) + 1) (by omega) (by omega)]
      exact h hm
  · rw [if_neg hm]
    refine Ev.step (f := fun _ => some ([], 5)) (fun k => ?_) (Ev.now _)
    simp only [zeros_Unpack.j1]
    rw [w64 (x := 1048576 - (out.length : Int)) (by omega) (by omega), if_pos (by omega)]

theorem up_l0 (l : List Int) (hl : l.length ≤ 1048576) (hok : l.all okS = true) : Ev (fun k => zeros_Unpack.l0 k [] 1 l (l.length : Int) 0) (up [] 1 l) := by
  have h := Ev.along l (fun k (s : List Int × Nat) i => zeros_Unpack.l0 k s.1 (s.2 : Int) l (l.length : Int) i) (fun s t => up s.1 s.2 t) (fun i s => s.1.length ≤ 1048576 ∧ s.2 ≤ 2097152) ?_ ?_ 0 ([], 1) (Nat.zero_le _) (by simp)
  · simpa using h
  · rintro ⟨out, w⟩ hs
    refine Ev.step (f := fun _ => some (out, 0)) (fun k => ?_) (Ev.now _)
    simp only [zeros_Unpack.l0]
    rw [if_neg (by omega)]
  · rintro i ⟨out, w⟩ a t ⟨hs1, hs2⟩ hd ha hlt ih
    dsimp only at hs1 hs2 ih ⊢
    have hb := all_mem hok ha
    simp [okS] at hb
    simp only [up]
    by_cases a1 : a ≤ 1
    · rw [if_pos a1]
      have e : a = 0 ∨ a = 1 := by omega
      have hj := up_j1 out l (l.length : Int) i (w * (a.toNat + 1)) ((2 * w : Nat) : Int) 0 (up (out ++ List.replicate (w * (a.toNat + 1)) 0) (2 * w) t) hs1 (by omega) (fun hm => ih (out ++ List.replicate (w * (a.toNat + 1)) 0, 2 * w) ⟨by simp; omega, by rcases e with rfl | rfl <;> simp at hm ⊢ <;> omega⟩)
      refine Ev.step (fun k => ?_) hj
      simp only [zeros_Unpack.l0]
      rw [if_pos (by omega), if_pos (by omega), if_pos (by omega), rd_some ha, w64 (x := (w : Int) * 2) (by omega) (by omega), w64 (x := (w : Int) + w) (by omega) (by omega), w64 (x := 0 + (w : Int)) (by omega) (by omega)]
      rcases e with rfl | rfl
      · rw [if_neg (by omega), if_pos rfl]
        congr 1
        all_goals simp
        all_goals omega
      · rw [if_pos rfl]
        congr 1
        all_goals simp
        all_goals omega
    · rw [if_neg a1]
      have hj := up_j1 out l (l.length : Int) i 1 ((1 : Nat) : Int) (a - 1) (up (out ++ [a - 1]) 1 t) hs1 (by omega) (fun hm => ih (out ++ [a - 1], 1) ⟨by simp; omega, by simp⟩)
      refine Ev.step (fun k => ?_) hj
      simp only [zeros_Unpack.l0]
      rw [if_pos (by omega), if_pos (by omega), if_pos (by omega), rd_some ha, w64 (x := a - 1) (by omega) (by omega), if_neg (by omega), if_neg (by omega)]
      rfl

theorem unpack_ev (l : List Int) (hl : l.length ≤ 1048576) : Ev (fun k => zeros_Unpack.f k l) (unpack l) := by
  unfold zeros_Unpack.f unpack
  refine Ev.bind (check_ev l (by omega)) ?_
  cases e : l.all okS with
  | false => exact Ev.ifn (by simp) (Ev.now _)
  | true => exact Ev.ifp rfl (up_l0 l hl e)

theorem rfill_l2 (x6 : Int) (i : Nat) (x9 : Int) (l : List Int) (m : Nat) (r : List Int × Int) (d : Nat) : ∀ (c : Nat) (out : List Int), c + d = m → out.length + d ≤ 1048576 → m ≤ 1048576 →
    Ev (fun k => gladstoneref49_Unpack.l1 k l (out ++ List.replicate d x9) x6 (wrap64 ((i : Int) + 1))) r → Ev (fun k => gladstoneref49_Unpack.l2 k l out x6 (i : Int) (m : Int) x9 (c : Int)) r := by
  induction d with
  | zero =>
    intro c out hc ho hm h
    refine Ev.step (fun k => ?_) h
    simp only [gladstoneref49_Unpack.l2]
    rw [if_neg (by omega)]
    simp
  | succ d ih =>
    intro c out hc ho hm h
    refine Ev.step (f := fun k => gladstoneref49_Unpack.l2 k l (out ++ [x9]) x6 (i : Int) (m : Int) x9 ((c + 1 : Nat) : Int)) (fun k => ?_) (ih (c + 1) (out ++ [x9]) (by omega) (by simp; omega) hm (by simpa [List.replicate_succ] using h))
    simp only [gladstoneref49_Unpack.l2]
    rw [if_pos (by omega), if_pos (by omega), w64 (x := (c : Int) + 1) (by omega) (by omega)]
    rfl

theorem rup_j2 (out l : List Int) (i many : Nat) (x6 x9 : Int) (r : List Int × Int) (ho : out.length ≤ 1048576) (hi : i ≤ 1048576)
    (h : many + out.length ≤ 1048576 → Ev (fun k => gladstoneref49_Unpack.l1 k l (out ++ List.replicate many x9) x6 ((i + 1 : Nat) : Int)) r) :
    Ev (fun k => gladstoneref49_Unpack.j2 k l out x6 (i : Int) (many : Int) x9) (if many + out.length ≤ 1048576 then r else ([], 5)) := by
  by_cases hm : many + out.length ≤ 1048576
  · rw [if_pos hm]
    refine Ev.step (f := fun k => gladstoneref49_Unpack.l2 k l out x6 (i : Int) (many : Int) x9 ((0 : Nat) : Int)) (fun k => ?_) (rfill_l2 x6 i x9 l many r many 0 out (by omega) (by omega) (by omega) ?_)
    · simp only [gladstoneref49_Unpack.j2]
      rw [w64 (x := 1048576 - (out.length : Int)) (by omega) (by omega), if_neg (by omega)]
      rfl
    · rw [w64 (x := (i : Int) + 1) (by omega) (by omega)]
      exact h hm
  · rw [if_neg hm]
    refine Ev.step (f := fun _ => some ([], 5)) (fun k => ?_) (Ev.now _)
    simp only [gladstoneref49_Unpack.j2]
    rw [w64 (x := 1048576 - (out.length : Int)) (by omega) (by omega), if_pos (by omega)]

theorem rup_l1 (l : List Int) (hl : l.length ≤ 1048576) (hok : l.all okS = true) : Ev (fun k => gladstoneref49_Unpack.l1 k l [] 1 0) (up [] 1 l) := by
  have h := Ev.along l (fun k (s : List Int × Nat) i => gladstoneref49_Unpack.l1 k l s.1 (s.2 : Int) i) (fun s t => up s.1 s.2 t) (fun i s => s.1.length ≤ 1048576 ∧ s.2 ≤ 2097152) ?_ ?_ 0 ([], 1) (Nat.zero_le _) (by simp)
  · simpa using h
  · rintro ⟨out, w⟩ hs
    refine Ev.step (f := fun _ => some (out, 0)) (fun k => ?_) (Ev.now _)
    simp only [gladstoneref49_Unpack.l1]
    rw [if_neg (by omega)]
  · rintro i ⟨out, w⟩ a t ⟨hs1, hs2⟩ hd ha hlt ih
    dsimp only at hs1 hs2 ih ⊢
    have hb := all_mem hok ha
    simp [okS] at hb
    simp only [up]
    by_cases a1 : a ≤ 1
    · rw [if_pos a1]
      have e : a = 0 ∨ a = 1 := by omega
      have hj := rup_j2 out l i (w * (a.toNat + 1)) ((2 * w : Nat) : Int) 0 (up (out ++ List.replicate (w * (a.toNat + 1)) 0) (2 * w) t) hs1 (by omega) (fun hm => ih (out ++ List.replicate (w * (a.toNat + 1)) 0, 2 * w) ⟨by simp; omega, by rcases e with rfl | rfl <;> simp at hm ⊢ <;> omega⟩)
      refine Ev.step (fun k => ?_) hj
      simp only [gladstoneref49_Unpack.l1]
      rw [if_pos (by omega), if_pos (by omega), rd_some ha, if_neg (by omega), w64 (x := (w : Int) * 2) (by omega) (by omega), w64 (x := a + 1) (by omega) (by omega)]
      rcases e with rfl | rfl
      · rw [w64 (x := (w : Int) * (0 + 1)) (by omega) (by omega)]
        congr 1
        all_goals simp
        all_goals omega
      · rw [w64 (x := (w : Int) * (1 + 1)) (by omega) (by omega)]
        congr 1
        all_goals simp
        all_goals omega
    · rw [if_neg a1]
      have hj := rup_j2 out l i 1 ((1 : Nat) : Int) (a - 1) (up (out ++ [a - 1]) 1 t) hs1 (by omega) (fun hm => ih (out ++ [a - 1], 1) ⟨by simp; omega, by simp⟩)
      refine Ev.step (fun k => ?_) hj
      simp only [gladstoneref49_Unpack.l1]
      rw [if_pos (by omega), if_pos (by omega), rd_some ha, w64 (x := a - 1) (by omega) (by omega), if_pos (by omega)]
      rfl

theorem runpack_ev (l : List Int) (hl : l.length ≤ 1048576) : Ev (fun k => gladstoneref49_Unpack.f k l) (unpack l) := by
  refine looks l okS (fun k i => gladstoneref49_Unpack.l0 k l i) (fun k => gladstoneref49_Unpack.l1 k l [] 1 0) ([], 2) (up [] 1 l) (fun k => ?_) (fun k i a ha hlt => ?_) (rup_l1 l hl)
  · simp only [gladstoneref49_Unpack.l0]
    rw [if_neg (by omega)]
  · simp only [gladstoneref49_Unpack.l0]
    rw [if_pos (by omega), if_pos (by omega), rd_some ha, w64 (x := (i : Int) + 1) (by omega) (by omega)]
    by_cases a0 : a < 0
    · have e : okS a = false := by simp [okS]; omega
      rw [if_pos a0, e]; rfl
    · by_cases a1 : a > 1048577
      · have e : okS a = false := by simp [okS]; omega
        rw [if_neg a0, if_pos a1, e]; rfl
      · have e : okS a = true := by simp [okS]; omega
        rw [if_neg a0, if_neg a1, e]; rfl

/-! ### equal lists -/
theorem ints_l0 (l : List Int) (hl : l.length ≤ 140737488355328) (d : Nat) : ∀ i : Nat, i + d = l.length → Ev (fun k => gladstoneref08_Ints.l0 k l l (i : Int)) true := by
  induction d with
  | zero =>
    intro i hi
    refine Ev.step (f := fun _ => some true) (fun k => ?_) (Ev.now _)
    simp only [gladstoneref08_Ints.l0]
    rw [if_neg (by omega)]
  | succ d ih =>
    intro i hi
    refine Ev.step (f := fun k => gladstoneref08_Ints.l0 k l l ((i + 1 : Nat) : Int)) (fun k => ?_) (ih (i + 1) (by omega))
    simp only [gladstoneref08_Ints.l0]
    rw [if_pos (by omega), if_pos (by omega), if_pos (by omega)]
    simp only [if_true]
    rw [w64 (by omega) (by omega)]
    rfl
theorem ints_ev (l : List Int) (hl : l.length ≤ 140737488355328) : Ev (fun k => gladstoneref08_Ints.f k l l) true := by
  simpa [gladstoneref08_Ints.f] using ints_l0 l hl l.length 0 (by omega)

/-- The error of signs, told by how long the list is so far. -/
def upE : Nat → Nat → List Int → Int
  | _, _, [] => 0
  | n, w, x :: t =>
    if x ≤ 1 then (if w * (x.toNat + 1) + n ≤ 1048576 then upE (n + w * (x.toNat + 1)) (2 * w) t else 5)
    else if 1 + n ≤ 1048576 then upE (n + 1) 1 t else 5
theorem up_err (t : List Int) : ∀ out w, (up out w t).2 = upE out.length w t := by
  induction t with
  | nil => intro out w; rfl
  | cons x t ih =>
    intro out w
    simp only [up, upE]
    split
    · split
      · rw [ih]; simp
      · rfl
    · split
      · rw [ih]; simp
      · rfl
theorem unpack_many : (unpack (List.replicate 21 0)).2 = 5 := by
  have h : (List.replicate 21 (0 : Int)).all okS = true := by decide
  unfold unpack
  rw [h, if_pos rfl, up_err]
  decide +kernel

theorem awake_ev : Ev (fun k => gladstonelaw49_awake.f k) true := by
  unfold gladstonelaw49_awake.f
  have a1 : Ev (fun k => zeros_Pack.f k [5, 0, 0, 0]) ([6, 0, 0], 0) := Ev.of (fun k => zeros_Pack.mono _ k) (k := 30) (by decide +kernel)
  have a2 : Ev (fun k => zeros_Unpack.f k [1, 0, 3]) ([0, 0, 0, 0, 2], 0) := Ev.of (fun k => zeros_Unpack.mono _ k) (k := 30) (by decide +kernel)
  have a3 : Ev (fun k => zeros_Pack.f k [-1]) ([], 2) := Ev.of (fun k => zeros_Pack.mono _ k) (k := 30) (by decide +kernel)
  refine Ev.bind a1 (Ev.bind a2 (Ev.bind a3 (Ev.ifp (by omega) (Ev.bind (unpack_ev (List.replicate 21 0) (by simp)) (Ev.bind (ints_ev _ (by simp)) (Ev.ifp rfl (Ev.ifp rfl (Ev.bind (ints_ev _ (by simp)) (Ev.ifp rfl (Ev.ifp rfl (Ev.ifp rfl ?_)))))))))))
  rw [unpack_many]
  exact Ev.now _
theorem awake_ev' : Ev (fun k => (gladstonelaw49_awake.f k).bind fun t => some t) true := Ev.bind (f := fun _ t => some t) awake_ev (Ev.now _)

theorem up_length (l : List Int) : ∀ out w, out.length ≤ 1048576 → (up out w l).1.length ≤ 1048576 := by
  induction l with
  | nil => intro out w h; simpa [up] using h
  | cons x t ih =>
    intro out w h
    simp only [up]
    split
    · split
      · exact ih _ _ (by simp; omega)
      · simp
    · split
      · exact ih _ _ (by simp; omega)
      · simp
theorem unpack_length (l : List Int) : (unpack l).1.length ≤ 1048576 := by
  unfold unpack
  split
  · exact up_length l [] 1 (by simp)
  · simp
theorem pack_length (l : List Int) : (pack l).1.length ≤ l.length := by
  unfold pack
  split
  · have := sg_length l 0; simp only; omega
  · simp

theorem ZerosPacks : gladstonelaw49_ZerosPacks.Pure := by
  intro l m _ _ _ _ _ _
  apply Ev.rounds
  have he : ∀ k, gladstonelaw49_ZerosPacks.f k l m = gladstonelaw49_ZerosPacks.j0 k l m (decide (l.length > 1000 ∨ m.length > 60)) := by
    intro k
    unfold gladstonelaw49_ZerosPacks.f
    by_cases h : (l.length : Int) > 1000
    · rw [if_pos h, decide_eq_true (by omega)]
    · rw [if_neg h]
      congr 1
      rw [Bool.eq_iff_iff]; simp; omega
  refine Ev.congr he ?_
  by_cases h : l.length > 1000 ∨ m.length > 60
  · rw [decide_eq_true h]
    refine Ev.step (fun k => ?_) awake_ev'
    simp only [gladstonelaw49_ZerosPacks.j0]
    rfl
  · rw [decide_eq_false h]
    refine Ev.step (fun k => by simp only [gladstonelaw49_ZerosPacks.j0]; rw [if_neg (by simp)]) ?_
    have p1 := pack_length l
    have p2 := unpack_length m
    exact Ev.bind (pack_ev l (by omega)) (Ev.bind (rpack_ev l (by omega)) (Ev.bind (unpack_ev m (by omega)) (Ev.bind (runpack_ev m (by omega)) (Ev.bind (ints_ev _ (by omega)) (Ev.ifp rfl (Ev.ifp rfl (Ev.bind (ints_ev _ (by omega)) (Ev.ifp rfl (Ev.ifp rfl awake_ev')))))))))

/-! ### back -/
/-- A digit more behind those of a number. -/
theorem rn_snoc (d : Nat) (hd : d ≤ 1) (z : Nat) : rn (z + 2 ^ (rn z).length * (d + 1)) = rn z ++ [(d : Int)] := by
  induction z using Nat.strongRecOn with
  | _ z ih =>
    by_cases h : z = 0
    · subst h
      rw [rn_zero]
      rw [rn_pos _ (by simp)]
      have e1 : (0 + 2 ^ ([] : List Int).length * (d + 1) - 1) % 2 = d := by simp; omega
      have e2 : (0 + 2 ^ ([] : List Int).length * (d + 1) - 1) / 2 = 0 := by simp; omega
      rw [e1, e2, rn_zero]
      rfl
    · have hz := rn_pos z (by omega)
      have ih' := ih ((z - 1) / 2) (by omega)
      generalize hL : (rn ((z - 1) / 2)).length = L at ih'
      have hlen : (rn z).length = L + 1 := by rw [hz]; simp [hL]
      rw [hlen, rn_pos _ (by omega), hz]
      have hp : 2 ^ (L + 1) * (d + 1) = 2 * (2 ^ L * (d + 1)) := by rw [Nat.pow_succ]; ac_rfl
      rw [hp]
      generalize 2 ^ L * (d + 1) = X at ih' ⊢
      have e1 : (z + 2 * X - 1) % 2 = (z - 1) % 2 := by omega
      have e2 : (z + 2 * X - 1) / 2 = (z - 1) / 2 + X := by omega
      rw [e1, e2, ih']
      rfl

/-- Reading a run's signs. -/
theorem up_run (t : List Int) : ∀ (n : Nat) (out : List Int) (w : Nat), w * n + out.length ≤ 1048576 → ∃ W, up out w (rn n ++ t) = up (out ++ List.replicate (w * n) 0) W t := by
  intro n
  induction n using Nat.strongRecOn with
  | _ n ih =>
    intro out w h
    by_cases h0 : n = 0
    · subst h0
      exact ⟨w, by simp [rn_zero]⟩
    · rw [rn_pos n (by omega)]
      obtain ⟨d, z, hn, hd, hz⟩ : ∃ d z, n = d + 1 + 2 * z ∧ (n - 1) % 2 = d ∧ (n - 1) / 2 = z := ⟨(n - 1) % 2, (n - 1) / 2, by omega, rfl, rfl⟩
      have hd1 : d ≤ 1 := by omega
      rw [hd, hz, List.cons_append]
      simp only [up]
      have hmul : w * n = w * (d + 1) + 2 * w * z := by rw [hn, Nat.mul_add]; congr 1; ac_rfl
      have ed : ((d : Nat) : Int).toNat = d := by simp
      rw [if_pos (by omega), ed, if_pos (by omega)]
      obtain ⟨W, hW⟩ := ih z (by omega) (out ++ List.replicate (w * (d + 1)) 0) (2 * w) (by simp; omega)
      refine ⟨W, ?_⟩
      rw [hW, hmul]
      congr 1
      simp [List.replicate_append_replicate]

theorem up_sg (t : List Int) : ∀ (n : Nat) (out : List Int), t.all okN = true → n + t.length + out.length ≤ 1048576 → up out 1 (sg n t) = (out ++ List.replicate n 0 ++ t, 0) := by
  induction t with
  | nil =>
    intro n out _ h
    obtain ⟨W, hW⟩ := up_run [] n out 1 (by simp at h; omega)
    rw [List.append_nil] at hW
    simp only [sg]
    rw [hW]
    simp [up]
  | cons x t ih =>
    intro n out hok h
    rw [List.all_cons, Bool.and_eq_true] at hok
    obtain ⟨hx, hok⟩ := hok
    simp [okN] at hx
    simp only [List.length_cons] at h
    simp only [sg]
    by_cases x0 : x = 0
    · rw [if_pos x0, ih (n + 1) out hok (by omega), x0]
      simp [List.replicate_succ']
    · rw [if_neg x0]
      obtain ⟨W, hW⟩ := up_run ((x + 1) :: sg 0 t) n out 1 (by omega)
      rw [hW]
      simp only [up]
      rw [if_neg (by omega), if_pos (by simp; omega), ih 0 _ hok (by simp; omega)]
      simp

theorem sg_zeros (z : Nat) : ∀ (n : Nat) (t : List Int), sg n (List.replicate z 0 ++ t) = sg (n + z) t := by
  induction z with
  | zero => intro n t; rfl
  | succ z ih =>
    intro n t
    rw [List.replicate_succ, List.cons_append]
    simp only [sg, if_true]
    rw [ih]
    congr 1
    omega

theorem sg_up (t : List Int) : ∀ (pre u : List Int) (z : Nat), (∀ x ∈ t, 0 ≤ x ∧ x ≤ 8) → up (pre ++ List.replicate z 0) (2 ^ (rn z).length) t = (u, 0) →
    ∃ v, u = pre ++ v ∧ sg 0 v = rn z ++ t ∧ v.all okN = true := by
  induction t with
  | nil =>
    intro pre u z _ h
    simp only [up, Prod.mk.injEq, and_true] at h
    refine ⟨List.replicate z 0, h.symm, ?_, ?_⟩
    · have := sg_zeros z 0 []
      simpa [sg] using this
    · simp [okN]
  | cons x t ih =>
    intro pre u z hx h
    have hx0 := hx x (by simp)
    have hx' : ∀ y ∈ t, 0 ≤ y ∧ y ≤ 8 := fun y hy => hx y (by simp [hy])
    simp only [up] at h
    by_cases x1 : x ≤ 1
    · rw [if_pos x1] at h
      split at h
      · have hs := rn_snoc x.toNat (by omega) z
        have e := ih pre u (z + 2 ^ (rn z).length * (x.toNat + 1)) hx' (by
          rw [← h, hs]
          congr 1
          · simp [List.replicate_append_replicate]
          · rw [List.length_append, List.length_singleton, Nat.pow_succ]; omega)
        obtain ⟨v, h1, h2, h3⟩ := e
        refine ⟨v, h1, ?_, h3⟩
        rw [h2, hs]
        have : ((x.toNat : Nat) : Int) = x := by omega
        rw [this]
        simp
      · simp at h
    · rw [if_neg x1] at h
      split at h
      · obtain ⟨v, h1, h2, h3⟩ := ih (pre ++ List.replicate z 0 ++ [x - 1]) u 0 hx' (by rw [rn_zero]; simpa using h)
        refine ⟨List.replicate z 0 ++ (x - 1) :: v, ?_, ?_, ?_⟩
        · rw [h1]; simp
        · rw [sg_zeros]
          simp only [sg]
          rw [if_neg (by omega), h2, rn_zero]
          simp
        · simp [okN] at h3 ⊢
          refine ⟨by omega, ?_⟩
          exact h3
      · simp at h

theorem pack_unpack (a : List Int) (h : a.all okN = true) (hl : a.length ≤ 1048576) : (pack a).2 = 0 ∧ unpack (pack a).1 = (a, 0) := by
  have hp : pack a = (sg 0 a, 0) := by unfold pack; rw [h]; rfl
  rw [hp]
  refine ⟨rfl, ?_⟩
  have hs : (sg 0 a).all okS = true := by
    have key : ∀ (a : List Int) (n : Nat), a.all okN = true → (sg n a).all okS = true := by
      have hr : ∀ n, (rn n).all okS = true := by
        intro n
        induction n using Nat.strongRecOn with
        | _ n ih =>
          by_cases h : n = 0
          · subst h; simp [rn_zero]
          · rw [rn_pos n (by omega), List.all_cons, ih _ (by omega)]
            simp [okS]; omega
      intro a
      induction a with
      | nil => intro n _; exact hr n
      | cons x t ih =>
        intro n hok
        rw [List.all_cons, Bool.and_eq_true] at hok
        have hx := hok.1
        simp [okN] at hx
        simp only [sg]
        split
        · exact ih _ hok.2
        · rw [List.all_append, hr, List.all_cons, ih _ hok.2]
          simp [okS]; omega
    exact key a 0 h
  unfold unpack
  rw [hs, if_pos rfl, up_sg a 0 [] h (by simp; omega)]
  simp

theorem unpack_pack (b : List Int) (h : ∀ x ∈ b, 0 ≤ x ∧ x ≤ 8) : ((unpack b).2 = 5 ∧ (unpack b).1 = []) ∨ ((unpack b).2 = 0 ∧ pack (unpack b).1 = (b, 0)) := by
  have hs : b.all okS = true := by
    rw [List.all_eq_true]
    intro x hx
    have := h x hx
    simp [okS]; omega
  have hu : unpack b = up [] 1 b := by unfold unpack; rw [hs]; rfl
  have h2 : ∀ (t : List Int) (out : List Int) (w : Nat), (up out w t).2 = 0 ∨ up out w t = ([], 5) := by
    intro t
    induction t with
    | nil => intro out w; exact .inl rfl
    | cons x t ih =>
      intro out w
      simp only [up]
      split
      · split
        · exact ih _ _
        · exact .inr rfl
      · split
        · exact ih _ _
        · exact .inr rfl
  rw [hu]
  rcases h2 b [] 1 with e | e
  · right
    refine ⟨e, ?_⟩
    obtain ⟨v, h1, h2, h3⟩ := sg_up b [] (up [] 1 b).1 0 h (by rw [rn_zero]; exact Prod.ext rfl e)
    rw [List.nil_append] at h1
    rw [h1]
    unfold pack
    rw [h3, h2, rn_zero]
    rfl
  · left
    rw [e]
    exact ⟨rfl, rfl⟩

theorem back_l1 (a m : List Int) (ha : a.all okN = true) (hal : a.length ≤ 1000) (hm : m.length ≤ 40) (hw : ∀ x ∈ m, 0 ≤ x ∧ x ≤ 255) : Ev (fun k => gladstonelaw49_ZerosBack.l1 k m a [] 0) true := by
  have h := Ev.along m (fun k (s : List Int) i => gladstonelaw49_ZerosBack.l1 k m a s i) (fun _ _ => true) (fun i s => s.length = i ∧ ∀ x ∈ s, 0 ≤ x ∧ x ≤ 8) ?_ ?_ 0 [] (Nat.zero_le _) (by simp)
  · exact h
  · rintro s ⟨hs1, hs2⟩
    obtain ⟨p1, p2⟩ := pack_unpack a ha (by omega)
    have l1 := pack_length a
    have l2 := unpack_length s
    have l3 := pack_length (unpack s).1
    refine Ev.step (fun k => by simp only [gladstonelaw49_ZerosBack.l1]; rw [if_neg (by omega)]) ?_
    refine Ev.bind (pack_ev a (by omega)) (Ev.bind (unpack_ev _ (by omega)) (Ev.bind (unpack_ev s (by omega)) (Ev.bind (pack_ev _ (by omega)) ?_)))
    refine Ev.ifp p1 (Ev.ifp (by rw [p2]) ?_)
    rw [p2]
    refine Ev.bind (ints_ev a (by omega)) (Ev.ifp rfl ?_)
    rw [decide_eq_false (by omega)]
    refine Ev.step (fun k => by simp only [gladstonelaw49_ZerosBack.j3]; rw [if_neg (by simp)]) ?_
    rcases unpack_pack s hs2 with ⟨u1, u2⟩ | ⟨u1, u2⟩
    · exact Ev.ifp u1 (Ev.ifp (by rw [u2]; rfl) awake_ev')
    · refine Ev.ifn (by rw [u1]; decide) (Ev.ifp u1 (Ev.ifp (by rw [u2]) ?_))
      rw [u2]
      exact Ev.bind (ints_ev s (by omega)) (Ev.ifp rfl awake_ev')
  · rintro i s x t ⟨hs1, hs2⟩ hd hx hlt ih
    have hb := hw x (List.mem_of_getElem? hx)
    have e : Int.tmod x 9 = x % 9 := Int.tmod_eq_emod_of_nonneg (by omega)
    refine Ev.step (fun k => ?_) (ih (s ++ [x % 9]) ⟨by simp [hs1], ?_⟩)
    · simp only [gladstonelaw49_ZerosBack.l1]
      rw [if_pos (by omega), if_pos (by omega), if_pos (by omega), rd_some hx, e, w64 (x := x % 9) (by omega) (by omega), w64 (x := (i : Int) + 1) (by omega) (by omega)]
      rfl
    · intro y hy
      rcases List.mem_append.1 hy with hy | hy
      · exact hs2 y hy
      · simp at hy; omega

theorem back_l0 (l m : List Int) (hl : l.length ≤ 1000) (hm : m.length ≤ 40) (hw0 : ∀ x ∈ l, 0 ≤ x ∧ x ≤ 65535) (hw : ∀ x ∈ m, 0 ≤ x ∧ x ≤ 255) : Ev (fun k => gladstonelaw49_ZerosBack.l0 k l m [] 0) true := by
  have h := Ev.along l (fun k (s : List Int) i => gladstonelaw49_ZerosBack.l0 k l m s i) (fun _ _ => true) (fun i s => s.length = i ∧ s.all okN = true) ?_ ?_ 0 [] (Nat.zero_le _) (by simp)
  · exact h
  · rintro s ⟨hs1, hs2⟩
    refine Ev.step (fun k => by simp only [gladstonelaw49_ZerosBack.l0]; rw [if_neg (by omega)]) (back_l1 s m hs2 (by omega) hm hw)
  · rintro i s x t ⟨hs1, hs2⟩ hd hx hlt ih
    have hb := hw0 x (List.mem_of_getElem? hx)
    have e0 : wrap64 x = x := w64 (by omega) (by omega)
    have e : Int.tmod x 40 = x % 40 := Int.tmod_eq_emod_of_nonneg (by omega)
    have e2 : Int.tmod x 2 = x % 2 := Int.tmod_eq_emod_of_nonneg (by omega)
    have hv : 0 ≤ x % 40 * (x % 2) ∧ x % 40 * (x % 2) ≤ 39 := by
      have h1 : x % 2 = 0 ∨ x % 2 = 1 := by omega
      rcases h1 with h1 | h1 <;> rw [h1] <;> omega
    refine Ev.step (fun k => ?_) (ih (s ++ [x % 40 * (x % 2)]) ⟨by simp [hs1], ?_⟩)
    · simp only [gladstonelaw49_ZerosBack.l0]
      rw [if_pos (by omega), if_pos (by omega), if_pos (by omega), rd_some hx, e0, e, e2, w64 (x := x % 40 * (x % 2)) (by omega) (by omega), w64 (x := (i : Int) + 1) (by omega) (by omega)]
      rfl
    · rw [List.all_append, hs2]
      simp [okN]; omega

theorem ZerosBack : gladstonelaw49_ZerosBack.Pure := by
  intro l m _ _ hw0 _ _ hw
  apply Ev.rounds
  have he : ∀ k, gladstonelaw49_ZerosBack.f k l m = gladstonelaw49_ZerosBack.j0 k l m (decide (l.length > 1000 ∨ m.length > 40)) := by
    intro k
    unfold gladstonelaw49_ZerosBack.f
    by_cases h : (l.length : Int) > 1000
    · rw [if_pos h, decide_eq_true (by omega)]
    · rw [if_neg h]
      congr 1
      rw [Bool.eq_iff_iff]; simp; omega
  refine Ev.congr he ?_
  by_cases h : l.length > 1000 ∨ m.length > 40
  · rw [decide_eq_true h]
    refine Ev.step (fun k => ?_) awake_ev'
    simp only [gladstonelaw49_ZerosBack.j0]
    rfl
  · rw [decide_eq_false h]
    refine Ev.step (fun k => by simp only [gladstonelaw49_ZerosBack.j0]; rw [if_neg (by simp)]) ?_
    exact back_l0 l m (by omega) (by omega) (fun x hx => by have := hw0 x hx; simp [Lit.wf, IntKind.min, IntKind.max, IntKind.bits, IntKind.signed] at this; omega) (fun x hx => by have := hw x hx; simp [Lit.wf, IntKind.min, IntKind.max, IntKind.bits, IntKind.signed] at this; omega)
end Go.Proofs.Ytnbnfpmbdnopaaa.Pure
