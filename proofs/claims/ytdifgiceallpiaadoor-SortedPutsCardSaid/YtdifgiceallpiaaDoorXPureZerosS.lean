/- The plain laws of chapter 49 (runs of noughts). -/
import Derived.Test.YtdifgiceallpiaaDoorXCom
import Derived.Test.YtdifgiceallpiaaDoorXPx3
import Derived.Test.YtdifgiceallpiaaDoorXPx5
set_option linter.unusedVariables false
set_option linter.unusedSimpArgs false
set_option linter.unusedSectionVars false
namespace Go.Proofs.YtdifgiceallpiaaDoor.Pure
open Go.RowKit YtdifgiceallpiaaDoorW.PrintWords YtdifgiceallpiaaDoorW.PrintMore YtdifgiceallpiaaDoor.P YtdifgiceallpiaaDoor.Com
def rn (n : Nat) : List Int := if h : n = 0 then [] else (((n - 1) % 2 : Nat) : Int) :: rn ((n - 1) / 2)
termination_by n
decreasing_by omega
theorem rn_zero : rn 0 = [] := by rw [rn]; simp
theorem rn_pos (n : Nat) (h : 0 < n) : rn n = (((n - 1) % 2 : Nat) : Int) :: rn ((n - 1) / 2) := by
 rw [rn]; simp [Nat.ne_of_gt h]
theorem rn_length (n : Nat) : (rn n).length ≤ n := by
 induction n using Nat.strongRecOn with
 | _ n ih =>
  by_cases h : n = 0
  ·subst h; simp [rn_zero]
  ·rw [rn_pos n (by omega), List.length_cons]
   have := ih ((n - 1) / 2) (by omega)
   omega
def sg : Nat → List Int → List Int
 | n, [] => rn n
 | n, x :: t => if x = 0 then sg (n + 1) t else rn n ++ (x + 1) :: sg 0 t
def okN (x : Int) : Bool := decide (0 ≤ x ∧ x ≤ 1048576)
def pack (l : List Int) : List Int × Int := if l.all okN then (sg 0 l, 0) else ([], 2)
def okS (x : Int) : Bool := decide (0 ≤ x ∧ x ≤ 1048577)
def up : List Int → Nat → List Int → List Int × Int
 | out, _, [] => (out, 0)
 | out, w, x :: t =>
  if x ≤ 1 then (if w * (x.toNat + 1) + out.length ≤ 1048576 then up (out ++ List.replicate (w * (x.toNat + 1)) 0) (2 * w) t else ([], 5))
  else if 1 + out.length ≤ 1048576 then up (out ++ [x - 1]) 1 t else ([], 5)
def unpack (l : List Int) : List Int × Int := if l.all okS then up [] 1 l else ([], 2)
theorem sg_length (l : List Int) : ∀ n, (sg n l).length ≤ n + l.length := by
 induction l with
 | nil => intro n; simpa [sg] using rn_length n
 | cons x t ih =>
  intro n
  simp only [sg]
  split
  ·have := ih (n + 1); simp only [List.length_cons]; omega
  ·have := ih 0; have := rn_length n; simp only [List.length_append, List.length_cons]; omega
theorem run_ev (n : Nat) (hn : n ≤ 17592186044415) : ∀ (out : List Int), out.length + n ≤ 17592186044415 → Ev (fun k => zbt.l0 k out (n : Int)) (out ++ rn n) := by
 induction n using Nat.strongRecOn with
 | _ n ih =>
  intro out ho
  by_cases h : n = 0
  ·subst h
   refine Ev.step (f := fun _ => some out) (fun k => ?_) (by rw [rn_zero, List.append_nil]; exact Ev.now _)
   simp only [zbt.l0]
   rw [if_neg (by omega)]
  ·rw [rn_pos n (by omega)]
   refine Ev.step (f := fun k => zbt.l0 k (out ++ [(((n - 1) % 2 : Nat) : Int)]) (((n - 1) / 2 : Nat) : Int)) (fun k => ?_) ?_
   ·simp only [zbt.l0]
    rw [if_pos (by omega), if_pos (by omega), w64 (x := (n : Int) - 1) (by omega) (by omega), Int.tmod_eq_emod_of_nonneg (by omega), Int.tdiv_eq_ediv_of_nonneg (by omega), w64 (x := ((n : Int) - 1) / 2) (by omega) (by omega)]
    have e1 : ((n : Int) - 1) % 2 = (((n - 1) % 2 : Nat) : Int) := by omega
    have e2 : ((n : Int) - 1) / 2 = (((n - 1) / 2 : Nat) : Int) := by omega
    rw [e1, e2]
   ·have := ih ((n - 1) / 2) (by omega) (by omega) (out ++ [(((n - 1) % 2 : Nat) : Int)]) (by simp; omega)
    simpa using this
theorem pack_ev (l : List Int) (hl : l.length ≤ 1048576) : Ev (fun k => zbh.f k l) (pack l) := by
 have h := Ev.along l (fun k (s : List Int × Nat) i => zbh.l0 k s.1 (s.2 : Int) l (l.length : Int) i) (fun s t => if t.all okN then (s.1 ++ sg s.2 t, 0) else ([], 2)) (fun i s => s.1.length + s.2 ≤ i) ?_ ?_ 0 ([], 0) (Nat.zero_le _) (by simp)
 ·simpa [pack, zbh.f] using h
 ·rintro ⟨out, n⟩ hs
  dsimp only at hs ⊢
  refine Ev.step (f := fun k => (zbt.f k out (n : Int)).bind fun t => some (t, 0)) (fun k => ?_) ?_
  ·simp only [zbh.l0]
   rw [if_neg (by omega)]
  ·refine Ev.bind (f := fun _ t => some (t, (0 : Int))) (a := out ++ rn n) ?_ ?_
   ·exact run_ev n (by omega) out (by omega)
   ·simpa [sg] using Ev.now (out ++ rn n, (0 : Int))
 ·rintro i ⟨out, n⟩ a t hs hd ha hlt ih
  dsimp only at hs ih ⊢
  refine Ev.step (f := fun k => zbh.j1 k out (n : Int) a l (l.length : Int) (i : Int) (decide (a < 0 ∨ 1048576 < a))) (fun k => ?_) ?_
  ·simp only [zbh.l0]
   rw [if_pos (by omega), if_pos (by omega), if_pos (by omega), rd_some ha]
   by_cases a0 : a < 0
   ·rw [if_pos a0, decide_eq_true (by omega)]
   ·rw [if_neg a0]
    congr 1
    rw [Bool.eq_iff_iff]; simp; omega
  ·by_cases hb : a < 0 ∨ 1048576 < a
   ·have e : okN a = false := by simp [okN]; omega
    rw [List.all_cons, e, Bool.false_and, if_neg (by simp)]
    refine Ev.step (f := fun _ => some ([], 2)) (fun k => ?_) (Ev.now _)
    simp only [zbh.j1]
    rw [if_pos (by simpa using hb)]
   ·have e : okN a = true := by simp [okN]; omega
    rw [List.all_cons, e, Bool.true_and]
    by_cases a0 : a = 0
    ·have := ih (out, n + 1) (by dsimp only; omega)
     have e0 : sg n (a :: t) = sg (n + 1) t := by simp only [sg]; rw [if_pos a0]
     rw [e0]
     refine Ev.step (fun k => ?_) this
     simp only [zbh.j1]
     rw [if_neg (show ¬ decide (a < 0 ∨ 1048576 < a) = true by simp; omega), if_pos a0, w64 (x := (n : Int) + 1) (by omega) (by omega), w64 (x := (i : Int) + 1) (by omega) (by omega)]
     rfl
    ·have hr := rn_length n
     have := ih (out ++ rn n ++ [a + 1], 0) (by simp; omega)
     have e0 : sg n (a :: t) = rn n ++ (a + 1) :: sg 0 t := by simp only [sg]; rw [if_neg a0]
     rw [e0]
     refine Ev.step (f := fun k => (zbt.f k out (n : Int)).bind fun t108 => (if t108.length < 17592186044416 then (zbh.l0 k (t108 ++ [a + 1]) 0 l (l.length : Int) ((i + 1 : Nat) : Int)) else (none))) (fun k => ?_) ?_
     ·simp only [zbh.j1]
      rw [if_neg (show ¬ decide (a < 0 ∨ 1048576 < a) = true by simp; omega), if_neg a0, w64 (x := a + 1) (by omega) (by omega), w64 (x := (i : Int) + 1) (by omega) (by omega)]
      rfl
     ·refine Ev.bind (a := out ++ rn n) (run_ev n (by omega) out (by omega)) (Ev.ifp (by simp; omega) ?_)
      simpa using this
theorem all_mem {p : Int → Bool} {l : List Int} {i : Nat} {a : Int} (h : l.all p = true) (ha : l[i]? = some a) : p a = true := List.all_eq_true.1 h a (List.mem_of_getElem? ha)
theorem looks {ρ : Type} (l : List Int) (p : Int → Bool) (g : Nat → Int → Option ρ) (h : Nat → Option ρ) (bad good : ρ)
  (end_ : ∀ k, g (k + 1) (l.length : Int) = h k) (next : ∀ k (i : Nat) a, l[i]? = some a → i < l.length → g (k + 1) (i : Int) = if p a then g k ((i + 1 : Nat) : Int) else some bad)
  (hh : l.all p = true → Ev h good) : Ev (fun k => g k 0) (if l.all p then good else bad) := by
 have key := Ev.along l (fun k (_ : Unit) i => g k i) (fun _ t => if t.all p = true ∧ l.all p = true then good else bad) (fun i _ => (l.take i).all p = true) ?_ ?_ 0 () (Nat.zero_le _) (by simp)
 ·have e : (if l.all p then good else bad) = (if l.all p = true ∧ l.all p = true then good else bad) := by cases l.all p <;> simp
  rw [e]
  exact key
 ·intro s hs
  rw [List.take_length] at hs
  simp only [List.all_nil, hs, and_self, if_true]
  exact Ev.step end_ (hh hs)
 ·intro i s a t hs hd ha hlt ih
  cases e : p a with
  | false =>
   refine Ev.step (f := fun _ => some bad) (fun k => ?_) (Ev.some ?_)
   ·rw [next k i a ha hlt, e]; rfl
   ·simp [e]
  | true =>
   have := ih () (by rw [List.take_add_one, ha]; simp [hs, e])
   simp only [List.all_cons, e, Bool.true_and]
   refine Ev.step (fun k => ?_) this
   rw [next k i a ha hlt, e]
   rfl
theorem check_ev (l : List Int) (hl : l.length ≤ 17592186044416) : Ev (fun k => zbq.f k l) (if l.all okS then 0 else 2) := by
 refine looks l okS (fun k i => zbq.l0 k l (l.length : Int) i) (fun _ => some 0) 2 0 (fun k => ?_) (fun k i a ha hlt => ?_) (fun _ => Ev.now _)
 ·simp only [zbq.l0]
  rw [if_neg (by omega)]
 ·simp only [zbq.l0]
  rw [if_pos (by omega), if_pos (by omega), if_pos (by omega), rd_some ha, w64 (x := (i : Int) + 1) (by omega) (by omega)]
  by_cases a0 : a < 0
  ·have e : okS a = false := by simp [okS]; omega
   rw [if_pos a0, e]; rfl
  ·by_cases a1 : a > 1048577
   ·have e : okS a = false := by simp [okS]; omega
    rw [if_neg a0, if_pos a1, e]; rfl
   ·have e : okS a = true := by simp [okS]; omega
    rw [if_neg a0, if_neg a1, e]; rfl
theorem fill_l1 (x6 x10 : Int) (l : List Int) (n x18 : Int) (m : Nat) (r : List Int × Int) (d : Nat) : ∀ (c : Nat) (out : List Int), c + d = m → out.length + d ≤ 1048576 → m ≤ 1048576 →
  Ev (fun k => zau.l0 k (out ++ List.replicate d x10) x6 l n (wrap64 (x18 + 1))) r → Ev (fun k => zau.l1 k out x6 x10 l n x18 (m : Int) (c : Int)) r := by
 induction d with
 | zero =>
  intro c out hc ho hm h
  refine Ev.step (fun k => ?_) h
  simp only [zau.l1]
  rw [if_neg (by omega)]
  simp
 | succ d ih =>
  intro c out hc ho hm h
  refine Ev.step (f := fun k => zau.l1 k (out ++ [x10]) x6 x10 l n x18 (m : Int) ((c + 1 : Nat) : Int)) (fun k => ?_) (ih (c + 1) (out ++ [x10]) (by omega) (by simp; omega) hm (by simpa [List.replicate_succ] using h))
  simp only [zau.l1]
  rw [if_pos (by omega), if_pos (by omega), w64 (x := (c : Int) + 1) (by omega) (by omega)]
  rfl
theorem up_j1 (out l : List Int) (n : Int) (i many : Nat) (x6 x10 : Int) (r : List Int × Int) (ho : out.length ≤ 1048576) (hi : i ≤ 1048576)
  (h : many + out.length ≤ 1048576 → Ev (fun k => zau.l0 k (out ++ List.replicate many x10) x6 l n ((i + 1 : Nat) : Int)) r) :
  Ev (fun k => zau.j1 k out x6 (many : Int) x10 l n (i : Int)) (if many + out.length ≤ 1048576 then r else ([], 5)) := by
 by_cases hm : many + out.length ≤ 1048576
 ·rw [if_pos hm]
  refine Ev.step (f := fun k => zau.l1 k out x6 x10 l n (i : Int) (many : Int) ((0 : Nat) : Int)) (fun k => ?_) (fill_l1 x6 x10 l n (i : Int) many r many 0 out (by omega) (by omega) (by omega) ?_)
  ·simp only [zau.j1]
   rw [w64 (x := 1048576 - (out.length : Int)) (by omega) (by omega), if_neg (by omega)]
   rfl
  ·rw [w64 (x := (i : Int) + 1) (by omega) (by omega)]
   exact h hm
 ·rw [if_neg hm]
  refine Ev.step (f := fun _ => some ([], 5)) (fun k => ?_) (Ev.now _)
  simp only [zau.j1]
  rw [w64 (x := 1048576 - (out.length : Int)) (by omega) (by omega), if_pos (by omega)]
theorem up_l0 (l : List Int) (hl : l.length ≤ 1048576) (hok : l.all okS = true) : Ev (fun k => zau.l0 k [] 1 l (l.length : Int) 0) (up [] 1 l) := by
 have h := Ev.along l (fun k (s : List Int × Nat) i => zau.l0 k s.1 (s.2 : Int) l (l.length : Int) i) (fun s t => up s.1 s.2 t) (fun i s => s.1.length ≤ 1048576 ∧ s.2 ≤ 2097152) ?_ ?_ 0 ([], 1) (Nat.zero_le _) (by simp)
 ·simpa using h
 ·rintro ⟨out, w⟩ hs
  refine Ev.step (f := fun _ => some (out, 0)) (fun k => ?_) (Ev.now _)
  simp only [zau.l0]
  rw [if_neg (by omega)]
 ·rintro i ⟨out, w⟩ a t ⟨hs1, hs2⟩ hd ha hlt ih
  dsimp only at hs1 hs2 ih ⊢
  have hb := all_mem hok ha
  simp [okS] at hb
  simp only [up]
  by_cases a1 : a ≤ 1
  ·rw [if_pos a1]
   have e : a = 0 ∨ a = 1 := by omega
   have hj := up_j1 out l (l.length : Int) i (w * (a.toNat + 1)) ((2 * w : Nat) : Int) 0 (up (out ++ List.replicate (w * (a.toNat + 1)) 0) (2 * w) t) hs1 (by omega) (fun hm => ih (out ++ List.replicate (w * (a.toNat + 1)) 0, 2 * w) ⟨by simp; omega, by rcases e with rfl | rfl <;> simp at hm ⊢ <;> omega⟩)
   refine Ev.step (fun k => ?_) hj
   simp only [zau.l0]
   rw [if_pos (by omega), if_pos (by omega), if_pos (by omega), rd_some ha, w64 (x := (w : Int) * 2) (by omega) (by omega), w64 (x := (w : Int) + w) (by omega) (by omega), w64 (x := 0 + (w : Int)) (by omega) (by omega)]
   rcases e with rfl | rfl
   ·rw [if_neg (by omega), if_pos rfl]
    congr 1
    all_goals simp
    all_goals omega
   ·rw [if_pos rfl]
    congr 1
    all_goals simp
    all_goals omega
  ·rw [if_neg a1]
   have hj := up_j1 out l (l.length : Int) i 1 ((1 : Nat) : Int) (a - 1) (up (out ++ [a - 1]) 1 t) hs1 (by omega) (fun hm => ih (out ++ [a - 1], 1) ⟨by simp; omega, by simp⟩)
   refine Ev.step (fun k => ?_) hj
   simp only [zau.l0]
   rw [if_pos (by omega), if_pos (by omega), if_pos (by omega), rd_some ha, w64 (x := a - 1) (by omega) (by omega), if_neg (by omega), if_neg (by omega)]
   rfl
theorem unpack_ev (l : List Int) (hl : l.length ≤ 1048576) : Ev (fun k => zau.f k l) (unpack l) := by
 unfold zau.f unpack
 refine Ev.bind (check_ev l (by omega)) ?_
 cases e : l.all okS with
 | false => exact Ev.ifn (by simp) (Ev.now _)
 | true => exact Ev.ifp rfl (up_l0 l hl e)
theorem pack_length (l : List Int) : (pack l).1.length ≤ l.length := by
 unfold pack
 split
 ·have := sg_length l 0; simp only; omega
 ·simp
theorem up_run (t : List Int) : ∀ (n : Nat) (out : List Int) (w : Nat), w * n + out.length ≤ 1048576 → ∃ W, up out w (rn n ++ t) = up (out ++ List.replicate (w * n) 0) W t := by
 intro n
 induction n using Nat.strongRecOn with
 | _ n ih =>
  intro out w h
  by_cases h0 : n = 0
  ·subst h0
   exact ⟨w, by simp [rn_zero]⟩
  ·rw [rn_pos n (by omega)]
   obtain ⟨d, z, hn, hd, hz⟩ : ∃ d z, n = d + 1 + 2 * z ∧ (n - 1) % 2 = d ∧ (n - 1) / 2 = z := ⟨(n - 1) % 2, (n - 1) / 2, by omega, rfl, rfl⟩
   have hd1 : d ≤ 1 := by omega
   rw [hd, hz, List.cons_append]
   simp only [up]
   have hmul : w * n = w * (d + 1) + 2 * w * z := by rw [hn, Nat.mul_add]; congr 1; ac_rfl
   have ed : ((d : Nat) : Int).toNat = d := by simp
   rw [if_pos (by omega), ed, if_pos (by omega)]
   obtain ⟨W, hW⟩ := ih z (by omega) (out ++ List.replicate (w * (d + 1)) 0) (2 * w) (by simp; omega)
   refine ⟨W, ?_⟩
   rw [hW, hmul]
   congr 1
   simp [List.replicate_append_replicate]
theorem up_sg (t : List Int) : ∀ (n : Nat) (out : List Int), t.all okN = true → n + t.length + out.length ≤ 1048576 → up out 1 (sg n t) = (out ++ List.replicate n 0 ++ t, 0) := by
 induction t with
 | nil =>
  intro n out _ h
  obtain ⟨W, hW⟩ := up_run [] n out 1 (by simp at h; omega)
  rw [List.append_nil] at hW
  simp only [sg]
  rw [hW]
  simp [up]
 | cons x t ih =>
  intro n out hok h
  rw [List.all_cons, Bool.and_eq_true] at hok
  obtain ⟨hx, hok⟩ := hok
  simp [okN] at hx
  simp only [List.length_cons] at h
  simp only [sg]
  by_cases x0 : x = 0
  ·rw [if_pos x0, ih (n + 1) out hok (by omega), x0]
   simp [List.replicate_succ']
  ·rw [if_neg x0]
   obtain ⟨W, hW⟩ := up_run ((x + 1) :: sg 0 t) n out 1 (by omega)
   rw [hW]
   simp only [up]
   rw [if_neg (by omega), if_pos (by simp; omega), ih 0 _ hok (by simp; omega)]
   simp
theorem pack_unpack (a : List Int) (h : a.all okN = true) (hl : a.length ≤ 1048576) : (pack a).2 = 0 ∧ unpack (pack a).1 = (a, 0) := by
 have hp : pack a = (sg 0 a, 0) := by unfold pack; rw [h]; rfl
 rw [hp]
 refine ⟨rfl, ?_⟩
 have hs : (sg 0 a).all okS = true := by
  have key : ∀ (a : List Int) (n : Nat), a.all okN = true → (sg n a).all okS = true := by
   have hr : ∀ n, (rn n).all okS = true := by
    intro n
    induction n using Nat.strongRecOn with
    | _ n ih =>
     by_cases h : n = 0
     ·subst h; simp [rn_zero]
     ·rw [rn_pos n (by omega), List.all_cons, ih _ (by omega)]
      simp [okS]; omega
   intro a
   induction a with
   | nil => intro n _; exact hr n
   | cons x t ih =>
    intro n hok
    rw [List.all_cons, Bool.and_eq_true] at hok
    have hx := hok.1
    simp [okN] at hx
    simp only [sg]
    split
    ·exact ih _ hok.2
    ·rw [List.all_append, hr, List.all_cons, ih _ hok.2]
     simp [okS]; omega
  exact key a 0 h
 unfold unpack
 rw [hs, if_pos rfl, up_sg a 0 [] h (by simp; omega)]
 simp
end Go.Proofs.YtdifgiceallpiaaDoor.Pure
