/- Sorting ends by twice as many bytes each time, plainly. -/
import Derived.Test.YtdifgiceallpiaaDoorXSa
import Derived.Test.YtdifgiceallpiaaDoorXHSa5
set_option linter.unusedVariables false
set_option linter.unusedSimpArgs false
set_option linter.unusedSectionVars false
section
namespace Go.Proofs.YtdifgiceallpiaaDoor.Sais
section
variable (P : List Nat) (rank : Nat → Nat)
def bP (i : Nat) : Nat := rank (P.getD i 0)
def sg (i : Nat) : Nat := hd P.length (bP P rank) upB (bP P rank i) + cnt i (fun j => bP P rank j == bP P rank i)
def outF : Nat → Nat → Nat
 | 0, _ => 0
 | j + 1, k => if k = sg P rank j then P.getD j 0 else outF j k
def csL : List Nat := (List.range P.length).map (outF P rank P.length)
end
section
variable {P : List Nat} {rank : Nat → Nat}
theorem cnt_lt {i k : Nat} {q : Nat → Bool} (h : i < k) (hq : q i = true) : cnt i q < cnt k q := by
 have h1 : cnt (i + 1) q = cnt i q + 1 := by
  unfold cnt
  rw [List.range_succ, List.filter_append, List.length_append]
  simp [hq]
 have h2 : ∀ d, cnt (i + 1) q ≤ cnt (i + 1 + d) q := by
  intro d
  induction d with
  | zero => exact Nat.le_refl _
  | succ d ih =>
   refine Nat.le_trans ih ?_
   unfold cnt
   rw [show i + 1 + (d + 1) = (i + 1 + d) + 1 from by omega, List.range_succ, List.filter_append, List.length_append]
   omega
 have := h2 (k - (i + 1))
 rw [show i + 1 + (k - (i + 1)) = k from by omega] at this
 omega
theorem sg_lt {i : Nat} (hi : i < P.length) : sg P rank i < hd P.length (bP P rank) upB (bP P rank i) + sz P.length (bP P rank) (bP P rank i) := by
 have : cnt i (fun j => bP P rank j == bP P rank i) < sz P.length (bP P rank) (bP P rank i) := cnt_lt hi (by simp)
 unfold sg
 omega
theorem sg_n {i : Nat} (hi : i < P.length) : sg P rank i < P.length := Nat.lt_of_lt_of_le (sg_lt hi) (up_n _)
theorem sg_mono {i k : Nat} (hi : i < P.length) (hk : k < P.length) (h : bP P rank i < bP P rank k ∨ (bP P rank i = bP P rank k ∧ i < k)) : sg P rank i < sg P rank k := by
 rcases h with h | ⟨h, h2⟩
 ·have h1 := sg_lt (rank := rank) hi
  have h3 := up_mono (n := P.length) (s := bP P rank) h
  have : hd P.length (bP P rank) upB (bP P rank k) ≤ sg P rank k := Nat.le_add_right _ _
  omega
 ·have : cnt i (fun j => bP P rank j == bP P rank i) < cnt k (fun j => bP P rank j == bP P rank i) := cnt_lt h2 (by simp)
  unfold sg
  rw [← h]
  omega
theorem sg_inv {i k : Nat} (hi : i < P.length) (hk : k < P.length) (h : sg P rank i < sg P rank k) : bP P rank i < bP P rank k ∨ (bP P rank i = bP P rank k ∧ i < k) := by
 rcases Nat.lt_trichotomy (bP P rank i) (bP P rank k) with h1 | h1 | h1
 ·exact .inl h1
 ·rcases Nat.lt_trichotomy i k with h2 | h2 | h2
  ·exact .inr ⟨h1, h2⟩
  ·subst h2; omega
  ·have := sg_mono hk hi (.inr ⟨h1.symm, h2⟩); omega
 ·have := sg_mono hk hi (.inl h1); omega
theorem sg_inj {i k : Nat} (hi : i < P.length) (hk : k < P.length) (h : sg P rank i = sg P rank k) : i = k := by
 rcases Nat.lt_trichotomy (bP P rank i) (bP P rank k) with h1 | h1 | h1
 ·have := sg_mono hi hk (.inl h1); omega
 ·rcases Nat.lt_trichotomy i k with h2 | h2 | h2
  ·have := sg_mono hi hk (.inr ⟨h1, h2⟩); omega
  ·exact h2
  ·have := sg_mono hk hi (.inr ⟨h1.symm, h2⟩); omega
 ·have := sg_mono hk hi (.inl h1); omega
theorem outF_at : ∀ m, m ≤ P.length → ∀ i, i < m → outF P rank m (sg P rank i) = P.getD i 0 := by
 intro m
 induction m with
 | zero => intro _ i hi; omega
 | succ m ih =>
  intro hm i hi
  rw [outF]
  by_cases e : i = m
  ·rw [e, if_pos rfl]
  ·rw [if_neg (fun h => e (sg_inj (P := P) (rank := rank) (i := i) (k := m) (by omega) (by omega) h))]
   exact ih (by omega) i (by omega)
theorem sg_sur {k : Nat} (hk : k < P.length) : ∃ i, i < P.length ∧ sg P rank i = k :=
 range_all (fun i hi => sg_n hi) (fun i j hi hj e => sg_inj hi hj e) k hk
theorem csL_len : (csL P rank).length = P.length := by simp [csL]
theorem csL_get {k : Nat} (hk : k < P.length) : ∃ i, i < P.length ∧ sg P rank i = k ∧ (csL P rank)[k]? = some (P.getD i 0) := by
 obtain ⟨i, hi, e⟩ := sg_sur (rank := rank) hk
 refine ⟨i, hi, e, ?_⟩
 unfold csL
 rw [List.getElem?_map, List.getElem?_range hk, Option.map_some, ← e, outF_at _ (Nat.le_refl _) i hi]
theorem gD {l : List Nat} {i : Nat} (h : i < l.length) : l.getD i 0 = l[i] := by rw [List.getD_eq_getElem?_getD, List.getElem?_eq_getElem h]; rfl
theorem csL_rel {R : Nat → Nat → Prop} (hR : P.Pairwise R) : (csL P rank).Pairwise (fun x y => rank x < rank y ∨ (rank x = rank y ∧ R x y)) := by
 rw [List.pairwise_iff_getElem]
 intro a b ha hb hab
 rw [csL_len] at ha hb
 obtain ⟨i, hi, ei, gi⟩ := csL_get (rank := rank) ha
 obtain ⟨k, hk, ek, gk⟩ := csL_get (rank := rank) hb
 have e1 := (List.getElem?_eq_some_iff.1 gi).2
 have e2 := (List.getElem?_eq_some_iff.1 gk).2
 rw [e1, e2]
 rcases sg_inv (rank := rank) hi hk (by rw [ei, ek]; exact hab) with h | ⟨h, h2⟩
 ·exact .inl h
 ·refine .inr ⟨h, ?_⟩
  rw [gD hi, gD hk]
  exact List.pairwise_iff_getElem.1 hR i k hi hk h2
theorem csL_perm {n : Nat} (hP : Perm0 n P) : Perm0 n (csL P rank) := by
 refine ⟨by rw [csL_len, hP.len], ?_, fun x hx => ?_⟩
 ·rw [List.nodup_iff_pairwise_ne]
  have h := csL_rel (rank := rank) (List.nodup_iff_pairwise_ne.1 hP.nd)
  refine h.imp (fun {a b} h => ?_)
  rcases h with h | h
  ·rintro rfl; omega
  ·exact h.2
 ·obtain ⟨k, hk, e⟩ := List.mem_iff_getElem.1 hx
  rw [csL_len] at hk
  obtain ⟨i, hi, _, gi⟩ := csL_get (rank := rank) hk
  have := (List.getElem?_eq_some_iff.1 gi).2
  rw [← e, this, gD hi]
  exact hP.lt _ (List.getElem_mem hi)
end
section
variable (x : List Nat)
def pre (h p : Nat) : List Nat := (x.drop p).take h
structure DbInv (h : Nat) (rk : Nat → Nat) : Prop where
 h1 : 1 ≤ h
 a : ∀ p q, p < x.length → q < x.length → rk p < rk q → pre x h p < pre x h q
 b : ∀ p q, p < x.length → q < x.length → rk p = rk q → pre x h p = pre x h q
 c : ∀ p, p < x.length → 1 ≤ rk p
def snd2 (h : Nat) (rk : Nat → Nat) (p : Nat) : Nat := if x.length ≤ p + h then 0 else rk (p + h)
end
section
variable {x : List Nat}
theorem pre_two (h p : Nat) : pre x (h + h) p = pre x h p ++ pre x h (p + h) := by
 unfold pre
 rw [List.take_add, List.drop_drop]
theorem pre_nil {h p : Nat} (hp : x.length ≤ p) : pre x h p = [] := by
 unfold pre
 rw [List.drop_eq_nil_of_le hp, List.take_nil]
theorem pre_len (h p : Nat) : (pre x h p).length = min h (x.length - p) := by
 unfold pre
 rw [List.length_take, List.length_drop]
theorem lt_append_left {a b : List Nat} (u v : List Nat) (h : a < b) (hl : ∀ t, b = a ++ t → u = []) : a ++ u < b ++ v := by
 induction a generalizing b with
 | nil =>
  rw [hl b rfl, List.nil_append]
  cases b with
  | nil => exact absurd h (List.lt_irrefl _)
  | cons y t => exact List.nil_lt_cons _ _
 | cons y a ih =>
  cases b with
  | nil => exact absurd h (List.not_lt_nil _)
  | cons z b =>
   rw [List.cons_append, List.cons_append, List.cons_lt_cons_iff]
   rcases List.cons_lt_cons_iff.1 h with h1 | ⟨h1, h2⟩
   ·exact .inl h1
   ·refine .inr ⟨h1, ih h2 (fun t e => hl t (by rw [e, h1]; rfl))⟩
theorem lt_append_right {a u v : List Nat} (h : u < v) : a ++ u < a ++ v := by
 induction a with
 | nil => exact h
 | cons y a ih => rw [List.cons_append, List.cons_append, List.cons_lt_cons_iff]; exact .inr ⟨rfl, ih⟩
theorem pre_lt1 {h p q : Nat} (hl : pre x h p < pre x h q) : pre x (h + h) p < pre x (h + h) q := by
 rw [pre_two, pre_two]
 refine lt_append_left _ _ hl (fun t e => ?_)
 have h1 := congrArg List.length e
 rw [List.length_append, pre_len, pre_len] at h1
 cases t with
 | nil => rw [List.append_nil] at e; rw [e] at hl; exact absurd hl (List.lt_irrefl _)
 | cons y t =>
  rw [List.length_cons] at h1
  exact pre_nil (by omega)
theorem pre_lt2 {h p q : Nat} (he : pre x h p = pre x h q) (hl : pre x h (p + h) < pre x h (q + h)) : pre x (h + h) p < pre x (h + h) q := by
 rw [pre_two, pre_two, he]
 exact lt_append_right hl
theorem pre_eq2 {h p q : Nat} (he : pre x h p = pre x h q) (hl : pre x h (p + h) = pre x h (q + h)) : pre x (h + h) p = pre x (h + h) q := by
 rw [pre_two, pre_two, he, hl]
theorem snd_lt {h : Nat} {rk : Nat → Nat} (hI : DbInv x h rk) {p q : Nat} (hl : snd2 x h rk p < snd2 x h rk q) : pre x h (p + h) < pre x h (q + h) := by
 unfold snd2 at hl
 by_cases h1 : x.length ≤ p + h
 ·rw [if_pos h1] at hl
  by_cases h2 : x.length ≤ q + h
  ·rw [if_pos h2] at hl; omega
  ·rw [pre_nil h1]
   have := pre_len (x := x) h (q + h)
   cases hc : pre x h (q + h) with
   | nil =>
    rw [hc, List.length_nil] at this
    rw [if_neg h2] at hl
    have := hI.h1
    omega
   | cons y t => exact List.nil_lt_cons _ _
 ·rw [if_neg h1] at hl
  by_cases h2 : x.length ≤ q + h
  ·rw [if_pos h2] at hl; omega
  ·rw [if_neg h2] at hl
   exact hI.a _ _ (by omega) (by omega) hl
theorem snd_eq {h : Nat} {rk : Nat → Nat} (hI : DbInv x h rk) {p q : Nat} (hl : snd2 x h rk p = snd2 x h rk q) : pre x h (p + h) = pre x h (q + h) := by
 unfold snd2 at hl
 by_cases h1 : x.length ≤ p + h
 ·rw [if_pos h1] at hl
  by_cases h2 : x.length ≤ q + h
  ·rw [pre_nil h1, pre_nil h2]
  ·rw [if_neg h2] at hl
   have := hI.c (q + h) (by omega)
   omega
 ·rw [if_neg h1] at hl
  by_cases h2 : x.length ≤ q + h
  ·rw [if_pos h2] at hl
   have := hI.c (p + h) (by omega)
   omega
  ·rw [if_neg h2] at hl
   exact hI.b _ _ (by omega) (by omega) hl
theorem dbl_ord {h : Nat} {rk : Nat → Nat} (hI : DbInv x h rk) {a : List Nat} (ha : Perm0 x.length a) :
  Perm0 x.length (csL (csL a (snd2 x h rk)) rk) ∧ (csL (csL a (snd2 x h rk)) rk).Pairwise (fun p q => pre x (h + h) p ≤ pre x (h + h) q) := by
 have h1 := csL_rel (P := a) (rank := snd2 x h rk) (R := fun _ _ => True) (List.pairwise_of_forall (fun _ _ => trivial))
 have p1 := csL_perm (rank := snd2 x h rk) ha
 have h2 := csL_rel (P := csL a (snd2 x h rk)) (rank := rk) h1
 have p2 := csL_perm (rank := rk) p1
 refine ⟨p2, List.Pairwise.imp_of_mem (fun {p q} hp hq hpq => ?_) h2⟩
 have hp := p2.lt p hp
 have hq := p2.lt q hq
 rcases hpq with h3 | ⟨h3, h4 | ⟨h4, _⟩⟩
 ·exact List.le_iff_lt_or_eq.2 (.inl (pre_lt1 (hI.a p q hp hq h3)))
 ·exact List.le_iff_lt_or_eq.2 (.inl (pre_lt2 (hI.b p q hp hq h3) (snd_lt hI h4)))
 ·exact List.le_iff_lt_or_eq.2 (.inr (pre_eq2 (hI.b p q hp hq h3) (snd_eq hI h4)))
theorem dbl_same {h : Nat} {rk : Nat → Nat} (hI : DbInv x h rk) {p q : Nat} (hp : p < x.length) (hq : q < x.length) : (rk p = rk q ∧ snd2 x h rk p = snd2 x h rk q) ↔ pre x (h + h) p = pre x (h + h) q := by
 constructor
 ·rintro ⟨h1, h2⟩
  exact pre_eq2 (hI.b p q hp hq h1) (snd_eq hI h2)
 ·intro e
  have hne : ∀ {u v : List Nat}, u < v → u ≠ v := fun h e => by rw [e] at h; exact absurd h (List.lt_irrefl _)
  have h1 : rk p = rk q := by
   rcases Nat.lt_trichotomy (rk p) (rk q) with h1 | h1 | h1
   ·exact absurd e (hne (pre_lt1 (hI.a p q hp hq h1)))
   ·exact h1
   ·exact absurd e.symm (hne (pre_lt1 (hI.a q p hq hp h1)))
  refine ⟨h1, ?_⟩
  rcases Nat.lt_trichotomy (snd2 x h rk p) (snd2 x h rk q) with h2 | h2 | h2
  ·exact absurd e (hne (pre_lt2 (hI.b p q hp hq h1) (snd_lt hI h2)))
  ·exact h2
  ·exact absurd e.symm (hne (pre_lt2 (hI.b q p hq hp h1.symm) (snd_lt hI h2)))
structure SrtOk (x : List Nat) (a : List Nat) : Prop where
 p : Perm0 x.length a
 o : a.Pairwise (fun p q => x.drop p < x.drop q)
theorem drop_ne {p q : Nat} (hp : p < x.length) (hq : q < x.length) (h : p ≠ q) : x.drop p ≠ x.drop q := by
 intro e
 have := congrArg List.length e
 rw [List.length_drop, List.length_drop] at this
 omega
theorem drop_lt_of_pre {h p q : Nat} (hl : pre x h p < pre x h q) : x.drop p < x.drop q := by
 have e1 : x.drop p = pre x h p ++ (x.drop p).drop h := (List.take_append_drop _ _).symm
 have e2 : x.drop q = pre x h q ++ (x.drop q).drop h := (List.take_append_drop _ _).symm
 rw [e1, e2]
 refine lt_append_left _ _ hl (fun t e => ?_)
 have h1 := congrArg List.length e
 rw [List.length_append, pre_len, pre_len] at h1
 cases t with
 | nil => rw [List.append_nil] at e; rw [e] at hl; exact absurd hl (List.lt_irrefl _)
 | cons y t =>
  rw [List.length_cons] at h1
  rw [List.drop_drop]
  exact List.drop_eq_nil_of_le (by omega)
theorem srt_all {h : Nat} {a : List Nat} (ha : Perm0 x.length a) (ho : a.Pairwise (fun p q => pre x h p ≤ pre x h q)) (hd : ∀ p q, p < x.length → q < x.length → pre x h p = pre x h q → p = q) : SrtOk x a := by
 refine ⟨ha, List.Pairwise.imp_of_mem (fun {p q} hp hq hpq => ?_) (ho.and (List.nodup_iff_pairwise_ne.1 ha.nd))⟩
 have hp := ha.lt p hp
 have hq := ha.lt q hq
 rcases List.le_iff_lt_or_eq.1 hpq.1 with h1 | h1
 ·exact drop_lt_of_pre h1
 ·exact absurd (hd p q hp hq h1) hpq.2
theorem pre_all {h p q : Nat} (hh : x.length ≤ h) (hp : p < x.length) (hq : q < x.length) (e : pre x h p = pre x h q) : p = q := by
 have h1 := congrArg List.length e
 rw [pre_len, pre_len] at h1
 omega
theorem dbl_next {h : Nat} {a : List Nat} (h1 : 1 ≤ h) (ha : Perm0 x.length a) (ho : a.Pairwise (fun p q => pre x h p ≤ pre x h q)) : DbInv x h (fun p => (nmL (pre x h) a).1 p + 1) := by
 have hk := nm_ok a.length a rfl ha.nd ho
 refine ⟨h1, fun p q hp hq hl => ?_, fun p q hp hq hl => ?_, fun p _ => by omega⟩
 ·exact hk.a p q (ha.all p hp) (ha.all q hq) (by omega)
 ·exact hk.b p q (ha.all p hp) (ha.all q hq) (by omega)
theorem dbl_apart {h : Nat} {a : List Nat} (ha : Perm0 x.length a) (ho : a.Pairwise (fun p q => pre x h p ≤ pre x h q)) (hm : x.length ≤ (nmL (pre x h) a).2.1 + 1) : ∀ p q, p < x.length → q < x.length → pre x h p = pre x h q → p = q := by
 intro p q hp hq e
 have hk := nm_ok a.length a rfl ha.nd ho
 have hlen := ha.len
 cases hL : a.getLast? with
 | none =>
  have := List.getLast?_eq_none_iff.1 hL
  rw [this, List.length_nil] at hlen
  omega
 | some z =>
  have h3 := (hk.l z hL).2.2
  have hd := hk.d (by omega)
  obtain ⟨i, hi, ei⟩ := List.mem_iff_getElem.1 (ha.all p hp)
  obtain ⟨k, hk2, ek⟩ := List.mem_iff_getElem.1 (ha.all q hq)
  have d1 := hd i p (by rw [List.getElem?_eq_getElem hi, ei])
  have d2 := hd k q (by rw [List.getElem?_eq_getElem hk2, ek])
  rcases Nat.lt_trichotomy i k with h4 | h4 | h4
  ·have := hk.a p q (ha.all p hp) (ha.all q hq) (by omega)
   rw [e] at this
   exact absurd this (List.lt_irrefl _)
  ·subst h4; rw [← ei, ← ek]
  ·have := hk.a q p (ha.all q hq) (ha.all p hp) (by omega)
   rw [e] at this
   exact absurd this (List.lt_irrefl _)
end
end Go.Proofs.YtdifgiceallpiaaDoor.Sais
end
section
namespace Go.Proofs.YtdifgiceallpiaaDoor.Hd
open Go Go.RowKit YtdifgiceallpiaaDoorW.PrintWords YtdifgiceallpiaaDoorW.PrintLast YtdifgiceallpiaaDoorW.PrintMore YtdifgiceallpiaaDoor.Hw YtdifgiceallpiaaDoor.Com YtdifgiceallpiaaDoor.Cn YtdifgiceallpiaaDoor.P YtdifgiceallpiaaDoor.Sais
attribute [local go_sem] za9 za8 zbi zbj za0 za1 zba zbb
def RankV (w : World) (f : FuncId) (cap : Array Value) (P : List Nat) (rank : Nat → Nat) : Prop :=
 ∀ p, p ∈ P → ∀ w', Below w.heap.size w w' → Calls Tryd.prog f (#[.int .i64 (p : Int)] ++ cap) w' fun e w'' => e = .returned (.int .i64 (rank p : Int)) ∧ Below w'.heap.size w' w''
set_option maxHeartbeats 16000000 in
set_option maxRecDepth 100000 in
theorem counted_ok (A0 : Option Addr) (c0 many : Nat) (P : List Nat) (rank : Nat → Nat) (f : FuncId) (fn : Func) (cap : Array Value) (w : World) (hC : Kd.C (Kd.int .i64) w A0 P.length (iN P)) (hr : ∀ p, p ∈ P → rank p < many) (hR : RankV w f cap P rank)
  (hf : Tryd.prog.funcs[f]? = some fn) (hname : (fn.name == "runtime.NumGoroutine") = false) (hb : fn.body.isSome = true) (hl : P.length ≤ 1073741824) (hm : many ≤ 1073741824) :
  Calls Tryd.prog 68 #[.slice A0 P.length c0, .int .i64 (many : Int), .func (.func f) #[] cap] w fun e w' => ∃ g : Nat, e = .returned (.slice (some ⟨g, 0, none⟩) P.length P.length) ∧ w.heap.size ≤ g ∧ Blk w' g .i64 3 (iN (csL P rank)) ∧ Below w.heap.size w w' := by
 obtain ⟨m1, hm1⟩ : ∃ m1, many + 1 = m1 := ⟨_, rfl⟩
 have e0 : wrap64 ((many : Int) + 1) = (m1 : Int) := by rw [w64 (by omega) (by omega)]; omega
 have HN := zaa.mk (And.intro hl (And.intro hm hm1))
 have HR := zaa.mk hR
 have HC := zaa.mk hC
 have HRK := zaa.mk hr
 obtain ⟨b, hbP⟩ : ∃ b, bP P rank = b := ⟨_, rfl⟩
 have HB := zaa.mk hbP
 have hrd : ∀ j, j < P.length → ∃ (ad : Addr) (p : Nat), A0 = some ad ∧ P.getD j 0 = p ∧ p ∈ P ∧ w.cell? (ad.add j) = some (.int .i64 (p : Int)) ∧ b j = rank p ∧ rank p < many := by
  intro j hj
  obtain ⟨ad, h1, h2⟩ := c_cell hC hj rfl
  have hmem : P.getD j 0 ∈ P := by rw [gD hj]; exact List.getElem_mem hj
  exact ⟨ad, _, h1, rfl, hmem, h2, by rw [← hbP]; rfl, hr _ hmem⟩
 have HRD := zaa.mk hrd
 clear hC hr hR hl hm hm1 hrd hbP
 go_enter Tryd.func68, Tryd.ntmps68
 go_wp2_with (first
  | ((with_reducible refine zay (N := 17) rfl ?_); refine zce rfl rfl m1 (congrArg (Value.int .i64) e0) (congrArg (Value.int .i64) e0) Tryd.underlying29 .i64 info3 (by decide) (by have := HN.out; omega) ?_; intro g w2 G2 B2 C2))
 have B2' := zaa.mk (show Blk w2 g .i64 3 (tabn m1 (fun r => if r = 0 then (0 : Int) else (szT b 0 (r - 1) : Int))) from by
  have := B2.out
  rw [zb8] at this
  refine (congrArg (Blk _ g .i64 3) (zbd (fun r _ => ?_))).mp this
  by_cases h : r = 0
  ·rw [if_pos h]
  ·rw [if_neg h]; rfl)
 clear B2 e0
 go_loopg [20] P.length (fun q v20 w' => ∃ (L : Int) (j : Nat), v20 = .int .i64 L ∧ zaa (L = (j : Int) ∧ j + q = P.length) ∧ zaa (Blk w' g .i64 3 (tabn m1 (fun r => if r = 0 then (0 : Int) else (szT b j (r - 1) : Int)))) ∧ zaa (Below w.heap.size w w'))
 case atStart => exact ⟨0, 0, rfl, ⟨rfl, by omega⟩, B2', C2⟩
 case round =>
  clear B2' C2
  obtain ⟨L, j, rfl, HL, B, C⟩ := hrel
  cases gk with
  | succ q =>
   obtain rfl : L = (j : Int) := HL.out.1
   have hjl : j < P.length := by have := HL.out; omega
   obtain ⟨ad, p, hA, hp, hpP, hpc, hbr, hrm⟩ := HRD.out j hjl
   subst hA
   have t1 : decide ((j : Int) < (P.length : Int)) = true := decide_eq_true (by omega)
   have t2 : decide (j < P.length) = true := decide_eq_true hjl
   have p1 : ((j : Int) < (P.length : Int)) = True := eq_true (by omega)
   have p2 : (j < P.length) = True := eq_true hjl
   have e1 : wrap64 ((j : Int) + 1) = ((j + 1 : Nat) : Int) := by have := HN.out; rw [w64 (by omega) (by omega)]; omega
   have k1 := (C.out.cell (World.block_lt_of_cell? w _ hpc)).trans hpc
   obtain ⟨r, hr⟩ : ∃ r, rank p = r := ⟨_, rfl⟩
   obtain ⟨r1, hr1⟩ : ∃ r1, r + 1 = r1 := ⟨_, rfl⟩
   rw [hr] at hbr hrm
   have e2 : wrap64 ((r : Int) + 1) = (r1 : Int) := by have := HN.out; rw [w64 (by omega) (by omega)]; omega
   have hr1m : r1 < m1 := by rw [← hr1, ← HN.out.2.2]; exact Nat.succ_lt_succ hrm
   have p3 : ((r1 : Int) < (m1 : Int)) = True := eq_true (Int.ofNat_lt.2 hr1m)
   have p4 : (r1 < m1) = True := eq_true hr1m
   obtain ⟨sv, hsv⟩ : ∃ sv, szT b j r = sv := ⟨_, rfl⟩
   have hsl := szT_le b j r
   have e3 : wrap64 ((sv : Int) + 1) = ((sv + 1 : Nat) : Int) := by have := HN.out; rw [w64 (by omega) (by omega)]; omega
   have HP := zaa.mk (And.intro hpP (And.intro hbr (And.intro hr (And.intro hr1 hsv))))
   clear hjl hp hpP hpc hbr hrm hr hr1 hsv hsl hr1m
   go_wp2_with (first
    | ((with_reducible refine zay (N := 27) rfl ?_); refine goesV_ (some 27) rfl rfl hf hname hb rfl rfl (#[.int .i64 (p : Int)] ++ cap) (by simp [go_sem]) ?_; refine (HR.out p HP.out.1 _ C.out).mono ?_; rintro e w4 ⟨rfl, hB⟩; refine ⟨_, rfl, ?_⟩; rw [HP.out.2.2.1]; have C4 := zaa.mk (zaf C.out hB); have B4 := zaa.mk (B.out.below hB); have kf := B4.out.free r1; have kg : w4.cell? ⟨g, r1, none⟩ = some (.int .i64 (sv : Int)) := (by have h := B4.out.cell r1 (by rw [za2]; exact of_eq_true p4); rw [zbr (of_eq_true p4), if_neg (by have := HP.out; omega), show r1 - 1 = r from by have := HP.out; omega, HP.out.2.2.2.2] at h; exact h); clear hB))
   go_roundg q
   case measure => omega
   case rel =>
    refine ⟨((j + 1 : Nat) : Int), j + 1, by first | rfl | simp only [e1] | (rw [e1]), ⟨rfl, by have := HL.out; omega⟩, ⟨?_⟩, ⟨zat C4.out G2.out⟩⟩
    try rw [e3]
    refine zb7 B4.out (fun y hy => ?_)
    obtain ⟨_, h2, _, h4, h5⟩ := HP.out
    clear e1 e2 e3 p1 p2 p3 p4 t1 t2 kg kf k1
    by_cases e : y = r1
    ·have e9 : szT b (j + 1) (y - 1) = sv + 1 := by rw [szT_succ, h2, if_pos (by omega), e, show r1 - 1 = r from by omega, h5]
     rw [if_pos e, if_neg (by omega), e9]
     first | rfl | omega
    ·rw [if_neg e]
     by_cases h0 : y = 0
     ·rw [if_pos h0, if_pos h0]
     ·rw [if_neg h0, if_neg h0, szT_succ, h2, if_neg (by omega), Nat.add_zero]
  | zero =>
   have t1 : decide (L < (P.length : Int)) = false := decide_eq_false (by have := HL.out; omega)
   have B5 := zaa.mk (show Blk wr g .i64 3 (tabn m1 (fun r => if r < 1 then (hd P.length b upB r : Int) else (szT b P.length (r - 1) : Int))) from by
    refine (congrArg (Blk _ g .i64 3) (zbd (fun r _ => ?_))).mp B.out
    rw [show j = P.length from by have := HL.out; omega]
    by_cases h0 : r = 0
    ·rw [if_pos h0, if_pos (by omega), h0, hd0]; rfl
    ·rw [if_neg h0, if_neg (by omega)])
   clear B HL
   go_wp2
   go_loopg [10] many (fun q v10 w' => ∃ i : Nat, v10 = .int .i64 (i : Int) ∧ zaa (i + q = many + 1 ∧ 1 ≤ i) ∧ zaa (Blk w' g .i64 3 (tabn m1 (fun r => if r < i then (hd P.length b upB r : Int) else (szT b P.length (r - 1) : Int)))) ∧ zaa (Below w.heap.size w w'))
   case atStart => exact ⟨1, rfl, ⟨by omega, Nat.le_refl _⟩, B5, C⟩
   case round =>
    clear B5 C t1
    obtain ⟨i, rfl, HL, B, C⟩ := hrel
    cases gk with
    | succ q =>
     obtain ⟨k, hk⟩ : ∃ k, i = k + 1 := ⟨i - 1, by have := HL.out; omega⟩
     have him : i < m1 := by have := HL.out; have := HN.out; omega
     have t1 : decide ((i : Int) ≤ (many : Int)) = true := decide_eq_true (by have := HL.out; omega)
     have t2 : decide (i ≤ many) = true := decide_eq_true (by have := HL.out; omega)
     have e1 : wrap64 ((i : Int) + 1) = ((i + 1 : Nat) : Int) := by have := HN.out; have := HL.out; rw [w64 (by omega) (by omega)]; omega
     have e2 : wrap64 ((i : Int) - 1) = (k : Int) := by have := HN.out; have := HL.out; rw [w64 (by omega) (by omega)]; omega
     have p1 : ((i : Int) < (m1 : Int)) = True := eq_true (by omega)
     have p2 : (i < m1) = True := eq_true him
     have p3 : ((k : Int) < (m1 : Int)) = True := eq_true (by omega)
     have p4 : (k < m1) = True := eq_true (by omega)
     have k1 := B.out.cell i (by rw [za2]; exact him)
     rw [zbr him, if_neg (Nat.lt_irrefl i), show i - 1 = k from by omega] at k1
     have k2 := B.out.cell k (by rw [za2]; omega)
     rw [zbr (by omega), if_pos (by omega)] at k2
     have hsum := hd_succ P.length b k
     have hle := hd_le P.length b (k + 1)
     obtain ⟨ci, hci⟩ : ∃ ci, szT b P.length k = ci := ⟨_, rfl⟩
     obtain ⟨ck, hck⟩ : ∃ ck, hd P.length b upB k = ck := ⟨_, rfl⟩
     rw [hci] at k1
     rw [hck] at k2
     have hsz : sz P.length b k = ci := hci
     rw [hck, hsz] at hsum
     have EW := zaa.mk (show wrap64 ((ci : Int) + (ck : Int)) = (hd P.length b upB i : Int) from by
      have := HN.out
      rw [hk]
      rw [w64 (by omega) (by omega)]; omega)
     have HK := zaa.mk hk
     clear hk him hsum hle hci hck hsz
     go_wp2
     refine zcr (n := 12) (S := fun w' => w'.cell? ⟨g, i, none⟩ = some (.int .i64 (ci : Int)) ∧ w'.cell? ⟨g, k, none⟩ = some (.int .i64 (ck : Int))) (ds := [11]) #[false, false, false, false, false, false, false, false, false, false, false, false] (by kernel_rfl) rfl rfl ⟨k1, k2⟩ (fun hHeld => ?_)
     refine pure_ (i := 0) (N := some 39) (v := ?_) (a' := ?_) #[true, false, false, false, false, false, false, false, false, false, false, false] rfl rfl (by kernel_rfl) (fun _ _ _ h => h) (Or.inl ⟨by rfl, ?_⟩) ?_ ?_
     rotate_left
     ·intro w'
      go_simp
      with_reducible rfl
     rotate_left
     ·simp only [Act.put, sAt, sZr, sSc, i64_w, i32_w]
      rfl
     refine pure_ (i := 1) (N := some 40) (v := ?_) (a' := ?_) #[true, true, false, false, false, false, false, false, false, false, false, false] rfl rfl (by kernel_rfl) (fun _ _ _ h => h) (Or.inl ⟨by rfl, ?_⟩) ?_ ?_
     rotate_left
     ·intro w'
      go_simp
      with_reducible rfl
     rotate_left
     ·simp only [Act.put, sAt, sZr, sSc, i64_w, i32_w]
      rfl
     refine pure_ (i := 2) (N := some 41) (v := ?_) (a' := ?_) #[true, true, true, false, false, false, false, false, false, false, false, false] rfl rfl (by kernel_rfl) (fun _ _ _ h => h) (Or.inl ⟨by rfl, ?_⟩) ?_ ?_
     rotate_left
     ·intro w'
      go_simp
      with_reducible rfl
     rotate_left
     ·simp only [Act.put, sAt, sZr, sSc, i64_w, i32_w]
      rfl
     refine pure_ (i := 4) (N := some 43) (v := ?_) (a' := ?_) #[true, true, true, false, true, false, false, false, false, false, false, false] rfl rfl (by kernel_rfl) (fun _ _ _ h => h) (Or.inl ⟨by rfl, ?_⟩) ?_ ?_
     rotate_left
     ·intro w'
      go_simp
      with_reducible rfl
     rotate_left
     ·simp only [Act.put, sAt, sZr, sSc, i64_w, i32_w]
      rfl
     refine pure_ (i := 5) (N := some 44) (v := ?_) (a' := ?_) #[true, true, true, false, true, true, false, false, false, false, false, false] rfl rfl (by kernel_rfl) (fun _ _ _ h => h) (Or.inl ⟨by rfl, ?_⟩) ?_ ?_
     rotate_left
     ·intro w'
      go_simp
      with_reducible rfl
     rotate_left
     ·simp only [Act.put, sAt, sZr, sSc, i64_w, i32_w]
      rfl
     refine pure_ (i := 6) (N := some 45) (v := ?_) (a' := ?_) #[true, true, true, false, true, true, true, false, false, false, false, false] rfl rfl (by kernel_rfl) (fun _ _ _ h => h) (Or.inl ⟨by rfl, ?_⟩) ?_ ?_
     rotate_left
     ·intro w'
      go_simp
      with_reducible rfl
     rotate_left
     ·simp only [Act.put, sAt, sZr, sSc, i64_w, i32_w]
      rfl
     refine pure_ (i := 7) (N := some 46) (v := ?_) (a' := ?_) #[true, true, true, false, true, true, true, true, false, false, false, false] rfl rfl (by kernel_rfl) (fun _ _ _ h => h) (Or.inl ⟨by rfl, ?_⟩) ?_ ?_
     rotate_left
     ·intro w'
      go_simp
      with_reducible rfl
     rotate_left
     ·simp only [Act.put, sAt, sZr, sSc, i64_w, i32_w]
      rfl
     refine take_ (i := 3) (N := some 42) (v := ?_) (a' := ?_) #[true, true, true, true, true, true, true, true, false, false, false, false] rfl rfl (by kernel_rfl) (fun _ _ _ h => h) (Or.inl ⟨by rfl, ?_⟩) hHeld ?_ ?_
     rotate_left
     ·rintro w' ⟨s0, s1⟩
      go_simp
      with_reducible rfl
     rotate_left
     ·simp only [Act.put, sAt, sZr, sSc, i64_w, i32_w]
      rfl
     refine take_ (i := 8) (N := some 47) (v := ?_) (a' := ?_) #[true, true, true, true, true, true, true, true, true, false, false, false] rfl rfl (by kernel_rfl) (fun _ _ _ h => h) (Or.inl ⟨by rfl, ?_⟩) hHeld ?_ ?_
     rotate_left
     ·rintro w' ⟨s0, s1⟩
      go_simp
      with_reducible rfl
     rotate_left
     ·simp only [Act.put, sAt, sZr, sSc, i64_w, i32_w]
      rfl
     refine pure_ (i := 9) (N := some 48) (v := ?_) (a' := ?_) #[true, true, true, true, true, true, true, true, true, true, false, false] rfl rfl (by kernel_rfl) (fun _ _ _ h => h) (Or.inl ⟨by rfl, ?_⟩) ?_ ?_
     rotate_left
     ·intro w'
      go_simp
      with_reducible rfl
     rotate_left
     ·simp only [Act.put, sAt, sZr, sSc, i64_w, i32_w]
      rfl
     refine pure_ (i := 10) (N := some 49) (v := ?_) (a' := ?_) #[true, true, true, true, true, true, true, true, true, true, true, false] rfl rfl (by kernel_rfl) (fun _ _ _ h => h) (Or.inl ⟨by rfl, ?_⟩) ?_ ?_
     rotate_left
     ·intro w'
      go_simp
      with_reducible rfl
     rotate_left
     ·simp only [Act.put, sAt, sZr, sSc, i64_w, i32_w]
      rfl
     refine last_ (i := 11) (N := none) #[true, true, true, true, true, true, true, true, true, true, true, true] rfl rfl (by kernel_rfl) (by decide) (fun K hK => ?_)
     have hfz : wr.drew.frozen? ⟨g, i, none⟩ = false := B.out.free i
     have hcz : wr.drew.cell? ⟨g, i, none⟩ = some (.int .i64 (ci : Int)) := k1
     refine skip_ (w1 := ?_) (by rfl) rfl ?_ ?_
     rotate_left
     ·go_simp
      rfl
     refine hK.out _ _ ?_
     clear hK K
     refine done_ (by kernel_rfl) ?_
     clear hHeld k1 k2 hfz hcz
     go_wp2
     go_roundg q
     case measure => omega
     case rel =>
      refine ⟨i + 1, by first | rfl | simp only [e1] | (rw [e1]), ⟨by have := HL.out; omega, by omega⟩, ⟨?_⟩, ⟨zat (zbl C.out) G2.out⟩⟩
      rw [EW.out]
      refine zb7 B.out.drew (fun y hy => ?_)
      by_cases e : y = i
      ·rw [if_pos e, if_pos (by omega), e]
      ·rw [if_neg e]
       by_cases h2 : y < i
       ·rw [if_pos h2, if_pos (by omega)]
       ·rw [if_neg h2, if_neg (by omega)]
    | zero =>
     have t1 : decide ((i : Int) ≤ (many : Int)) = false := decide_eq_false (by have := HL.out; omega)
     have t2 : decide (i ≤ many) = false := decide_eq_false (by have := HL.out; omega)
     have B5 := zaa.mk (show Blk wr g .i64 3 (tabn m1 (fun r => ((hd P.length b upB r + szT b 0 r : Nat) : Int))) from by
      refine (congrArg (Blk _ g .i64 3) (zbd (fun r hr => ?_))).mp B.out
      rw [if_pos (by have := HL.out; have := HN.out; omega)]; rfl)
     clear B HL
     go_wp2_with (first
      | ((with_reducible refine zay (N := 52) rfl ?_); refine zce rfl rfl P.length rfl rfl Tryd.underlying29 .i64 info3 (by decide) (by have := HN.out; omega) ?_; intro go w6 G6 B6 C6; have I6 := zaa.mk (show I2 w go g P.length m1 (fun s => (outF P rank 0 s : Int)) (fun r => ((hd P.length b upB r + szT b 0 r : Nat) : Int)) w6 from ⟨by have := B6.out; rw [zb8] at this; exact this, B5.out.below C6.out, by have := B5.out.lt; have := G6.out; omega, Nat.le_trans C.out.size G6.out, G2.out, zaf C.out C6.out⟩)))
     clear B5 C t1 t2 B6 C6
     go_loopg [55] P.length (fun q v55 w' => ∃ (L : Int) (j : Nat), v55 = .int .i64 L ∧ zaa (L = (j : Int) ∧ j + q = P.length) ∧ zaa (I2 w go g P.length m1 (fun s => (outF P rank j s : Int)) (fun r => ((hd P.length b upB r + szT b j r : Nat) : Int)) w'))
     case atStart => exact ⟨0, 0, rfl, ⟨rfl, by omega⟩, I6⟩
     case round =>
      clear I6
      obtain ⟨L, j, rfl, HL, I⟩ := hrel
      cases gk with
      | zero =>
       have t1 : decide (L < (P.length : Int)) = false := decide_eq_false (by have := HL.out; omega)
       have ej : j = P.length := by have := HL.out; omega
       have K := zaa.mk (show Blk wr go .i64 3 (iN (csL P rank)) from by
        have h := I.out.o
        rw [ej] at h
        have e : tabn P.length (fun s => (outF P rank P.length s : Int)) = iN (csL P rank) := by
         unfold iN csL tabn
         rw [List.map_map]; rfl
        rw [← e]; exact h)
       clear ej
       go_wp2
       go_ret
       exact ⟨go, rfl, I.out.lo, K.out, I.out.bl⟩
      | succ q =>
       obtain rfl : L = (j : Int) := HL.out.1
       have hjl : j < P.length := by have := HL.out; omega
       obtain ⟨ad, p, hA, hp, hpP, hpc, hbr, hrm⟩ := HRD.out j hjl
       subst hA
       have t1 : decide ((j : Int) < (P.length : Int)) = true := decide_eq_true (by omega)
       have t2 : decide (j < P.length) = true := decide_eq_true hjl
       have p1 : ((j : Int) < (P.length : Int)) = True := eq_true (by omega)
       have p2 : (j < P.length) = True := eq_true hjl
       have e1 : wrap64 ((j : Int) + 1) = ((j + 1 : Nat) : Int) := by have := HN.out; rw [w64 (by omega) (by omega)]; omega
       have k1 := (I.out.bl.cell (World.block_lt_of_cell? w _ hpc)).trans hpc
       obtain ⟨r, hr⟩ : ∃ r, rank p = r := ⟨_, rfl⟩
       rw [hr] at hbr hrm
       have hrm1 : r < m1 := by rw [← HN.out.2.2]; exact Nat.lt_succ_of_lt hrm
       have p3 : ((r : Int) < (m1 : Int)) = True := eq_true (Int.ofNat_lt.2 hrm1)
       have p4 : (r < m1) = True := eq_true hrm1
       have hsg : hd P.length b upB r + szT b j r = sg P rank j := by rw [← hbr, ← HB.out]; rfl
       have hsgn := sg_n (P := P) (rank := rank) hjl
       obtain ⟨sv, hsv⟩ : ∃ sv, sg P rank j = sv := ⟨_, rfl⟩
       rw [hsv] at hsg hsgn
       have p5 : ((sv : Int) < (P.length : Int)) = True := eq_true (Int.ofNat_lt.2 hsgn)
       have p6 : (sv < P.length) = True := eq_true hsgn
       have e3 : wrap64 ((sv : Int) + 1) = ((sv + 1 : Nat) : Int) := by have := HN.out; rw [w64 (by omega) (by omega)]; omega
       have HP := zaa.mk (And.intro hpP (And.intro hbr (And.intro hr (And.intro hsv (And.intro hsg (And.intro hp hsgn))))))
       have HRM := zaa.mk hrm1
       clear hjl hp hpP hpc hbr hrm hr hsv hsg hsgn hrm1
       go_wp2_with (first
        | ((with_reducible refine zay (N := 61) rfl ?_); refine goesV_ (some 61) rfl rfl hf hname hb rfl rfl (#[.int .i64 (p : Int)] ++ cap) (by simp [go_sem]) ?_; refine (HR.out p HP.out.1 _ I.out.bl).mono ?_; rintro e w4 ⟨rfl, hB⟩; refine ⟨_, rfl, ?_⟩; rw [HP.out.2.2.1]; have I4 := zaa.mk (show I2 w go g P.length m1 (fun s => (outF P rank j s : Int)) (fun r => ((hd P.length b upB r + szT b j r : Nat) : Int)) w4 from ⟨I.out.o.below hB, I.out.a.below hB, I.out.ne, I.out.lo, I.out.la, zaf I.out.bl hB⟩); have kf := I4.out.o.free sv; have kg := I4.out.co HP.out.2.2.2.2.2.2; have k3 : w4.cell? ⟨g, r, none⟩ = some (.int .i64 (sv : Int)) := (by have h := I4.out.ca HRM.out; rw [HP.out.2.2.2.2.1] at h; exact h); have I5 := zaa.mk (I4.out.seto (fo' := fun s => (outF P rank (j + 1) s : Int)) sv (p : Int) (fun y hy => by rw [outF, HP.out.2.2.2.1, HP.out.2.2.2.2.2.1]; split <;> rfl)); have k5 : (w4.setCell ⟨go, sv, none⟩ (.int .i64 (p : Int))).cell? ⟨g, r, none⟩ = some (.int .i64 (sv : Int)) := (by have h := I5.out.ca HRM.out; rw [HP.out.2.2.2.2.1] at h; exact h); have kf5 := I5.out.a.free r; clear hB))
       go_roundg q
       case measure => omega
       case rel =>
        refine ⟨((j + 1 : Nat) : Int), j + 1, by first | rfl | simp only [e1] | (rw [e1]), ⟨rfl, by have := HL.out; omega⟩, ⟨?_⟩⟩
        try rw [e3]
        refine I5.out.seta r _ (fun y hy => ?_)
        obtain ⟨_, h2, _, h4, h5, _, _⟩ := HP.out
        clear e1 e3 p1 p2 p3 p4 p5 p6 t1 t2 kg kf k1 k3 k5 kf5
        rw [szT_succ, h2]
        by_cases e : y = r
        ·rw [if_pos e, if_pos e.symm, e]; omega
        ·rw [if_neg e, if_neg (Ne.symm e), Nat.add_zero]
end Go.Proofs.YtdifgiceallpiaaDoor.Hd
end
section
namespace Go.Proofs.YtdifgiceallpiaaDoor.Hd
open Go Go.RowKit YtdifgiceallpiaaDoorW.PrintWords YtdifgiceallpiaaDoorW.PrintLast YtdifgiceallpiaaDoorW.PrintMore YtdifgiceallpiaaDoor.Hw YtdifgiceallpiaaDoor.Com YtdifgiceallpiaaDoor.Cn YtdifgiceallpiaaDoor.P YtdifgiceallpiaaDoor.Sais
attribute [local go_sem] za9 za8 zbi zbj za0 za1 zba zbb
section
variable {P : Program} {ops : Array Oper} {Q : Exit → Act → World → Prop}
theorem goesVd_ {oi : Oper} {N : Option Tmp} {a : Act} {w : World} {K : Act → World → Prop} {f : FuncId} {fn : Func} {x : Operand} {as_ : Array Operand} {ts : Array TypeId} {fst cap : Array Value} (hf : P.funcs[f]? = some fn) (hname : (fn.name == "runtime.NumGoroutine") = false) (hb : fn.body.isSome = true) (args : Array Value)
  (hw : Region.wanted oi (yielded ops a.tmps) = true) (hN : oi.dst = N) (hop : oi.op = .call { callee := .value x, args := as_, argTypes := ts }) (hx : a.eval x = .func (.func f) fst cap) (hargs : fst ++ as_.map a.eval ++ cap = args)
  (h : Calls P f args w fun e w' => ∃ v, e = .returned v ∧ K (a.put N v) w') : if Region.wanted oi (yielded ops a.tmps) = true then Oper.wp P oi a w K Q else K (a.put N undef) w := by
 refine call_ f args hw hN ?_ h
 have he := enters_ hf hname hb args w
 unfold execOp
 simp [hop, resolve, Deferred.ofValue, invoke, hx, hargs, he]
theorem alloc_var {rest : List Oper} {o : Oper} {a : Act} {W : World} (hgd : o.guard = none) {t : TypeId} {z : Value} {size bytes : Nat} {cs : Array Value} (ho : o.op = .alloc t) (hinfo : (P.info? t).map (fun i => (i.zero, i.size, i.bytes)) = some (some z, size, bytes)) (hc : z.cells = cs)
  (h : ∀ (g : Nat) (w1 : World), zaa (g = W.heap.size) → zaa (w1.heap[g]? = some (.cells cs t (0, 0))) → zaa (Below W.heap.size W w1) → wpList P ops Q rest (a.put o.dst (.pointer (some ⟨g, 0, none⟩))) w1) : wpList P ops Q (o :: rest) a W :=
 alloc_event hgd ho hinfo hc (h _ _ ⟨rfl⟩ ⟨zck W _⟩ ⟨zac (Below.refl _ _) _⟩)
end
theorem info22 : (Tryd.prog.info? 29).map (fun i => (i.zero, i.size, i.bytes)) = some (some (.slice none 0 0), 1, 24) := by kernel_rfl
structure Env (gr gk n : Nat) (rk : Nat → Nat) (W : World) : Prop where
 r : W.heap[gr]? = some (.cells #[.slice (some ⟨gk, 0, none⟩) n n] 29 (0, 0))
 k : Blk W gk .i64 3 (tabn n (fun p => (rk p : Int)))
theorem Env.below {gr gk n : Nat} {rk : Nat → Nat} {W W1 : World} (h : Env gr gk n rk W) (hB : Below W.heap.size W W1) : Env gr gk n rk W1 := ⟨za6 h.r hB, h.k.below hB⟩
theorem Env.ck {gr gk n : Nat} {rk : Nat → Nat} {W : World} (h : Env gr gk n rk W) {p : Nat} (hp : p < n) : W.cell? ⟨gk, p, none⟩ = some (.int .i64 (rk p : Int)) := by
 have := h.k.cell p (by rw [za2]; exact hp)
 rw [zbr hp] at this
 exact this
theorem first1_ok (gr gk n p : Nat) (rk : Nat → Nat) (w : World) (h : Env gr gk n rk w) (hp : p < n) : Calls Tryd.prog 69 #[.int .i64 (p : Int), .pointer (some ⟨gr, 0, none⟩)] w fun e w' => e = .returned (.int .i64 (rk p : Int)) ∧ Below w.heap.size w w' := by
 have k1 : w.cell? ⟨gr, 0, none⟩ = some (.slice (some ⟨gk, 0, none⟩) n n) := (zah h.r 0).trans rfl
 have k2 := h.ck hp
 have p1 : ((p : Int) < (n : Int)) = True := eq_true (by omega)
 have p2 : (p < n) = True := eq_true hp
 clear h hp
 go_enter Tryd.func69, Tryd.ntmps69
 go_wp2
 go_ret
 exact ⟨rfl, Below.refl _ _⟩
theorem first3_ok (gr gk n p : Nat) (rk : Nat → Nat) (w : World) (h : Env gr gk n rk w) (hp : p < n) : Calls Tryd.prog 71 #[.int .i64 (p : Int), .pointer (some ⟨gr, 0, none⟩)] w fun e w' => e = .returned (.int .i64 (rk p : Int)) ∧ Below w.heap.size w w' := by
 have k1 : w.cell? ⟨gr, 0, none⟩ = some (.slice (some ⟨gk, 0, none⟩) n n) := (zah h.r 0).trans rfl
 have k2 := h.ck hp
 have p1 : ((p : Int) < (n : Int)) = True := eq_true (by omega)
 have p2 : (p < n) = True := eq_true hp
 clear h hp
 go_enter Tryd.func71, Tryd.ntmps71
 go_wp2
 go_ret
 exact ⟨rfl, Below.refl _ _⟩
structure Env2 (gs gn gr gk n h : Nat) (rk : Nat → Nat) (W : World) : Prop where
 e : Env gr gk n rk W
 s : W.heap[gs]? = some (.cells #[.int .i64 (h : Int)] 3 (0, 0))
 n : W.heap[gn]? = some (.cells #[.int .i64 (n : Int)] 3 (0, 0))
theorem Env2.below {gs gn gr gk n h : Nat} {rk : Nat → Nat} {W W1 : World} (hE : Env2 gs gn gr gk n h rk W) (hB : Below W.heap.size W W1) : Env2 gs gn gr gk n h rk W1 := ⟨hE.e.below hB, za6 hE.s hB, za6 hE.n hB⟩
theorem second_ok (gs gn gr gk h p : Nat) (x : List Nat) (rk : Nat → Nat) (w : World) (hE : Env2 gs gn gr gk x.length h rk w) (hp : p < x.length) (hh : h ≤ 1073741824) (hx : x.length ≤ 1073741824) :
  Calls Tryd.prog 70 #[.int .i64 (p : Int), .pointer (some ⟨gs, 0, none⟩), .pointer (some ⟨gn, 0, none⟩), .pointer (some ⟨gr, 0, none⟩)] w fun e w' => e = .returned (.int .i64 (snd2 x h rk p : Int)) ∧ Below w.heap.size w w' := by
 obtain ⟨n, hn⟩ : ∃ n, x.length = n := ⟨_, rfl⟩
 have hs2 : snd2 x h rk p = if n ≤ p + h then 0 else rk (p + h) := by rw [← hn]; rfl
 rw [hn] at hE hp hx
 have k1 : w.cell? ⟨gr, 0, none⟩ = some (.slice (some ⟨gk, 0, none⟩) n n) := (zah hE.e.r 0).trans rfl
 have k2 : w.cell? ⟨gs, 0, none⟩ = some (.int .i64 (h : Int)) := (zah hE.s 0).trans rfl
 have k3 : w.cell? ⟨gn, 0, none⟩ = some (.int .i64 (n : Int)) := (zah hE.n 0).trans rfl
 have e1 : wrap64 ((n : Int) - (p : Int)) = ((n - p : Nat) : Int) := by rw [w64 (by omega) (by omega)]; omega
 obtain ⟨d, hd⟩ : ∃ d, n - p = d := ⟨_, rfl⟩
 obtain ⟨d1, hd1⟩ : ∃ d1, d - 1 = d1 := ⟨_, rfl⟩
 rw [hd] at e1
 have e2 : wrap64 ((d : Int) - 1) = (d1 : Int) := by rw [w64 (by omega) (by omega)]; omega
 by_cases hc : n ≤ p + h
 ·have t1 : decide ((d1 : Int) < (h : Int)) = true := decide_eq_true (by omega)
  have t2 : decide (d1 < h) = true := decide_eq_true (by omega)
  rw [if_pos hc] at hs2
  rw [hs2]
  clear hE hp hx hh hd hd1 hc hs2 hn
  go_enter Tryd.func70, Tryd.ntmps70
  go_wp2
  go_ret
  exact ⟨rfl, Below.refl _ _⟩
 ·have t1 : decide ((d1 : Int) < (h : Int)) = false := decide_eq_false (by omega)
  have t2 : decide (d1 < h) = false := decide_eq_false (by omega)
  obtain ⟨q, hq⟩ : ∃ q, p + h = q := ⟨_, rfl⟩
  rw [if_neg hc, hq] at hs2
  rw [hs2]
  have hqn : q < n := by omega
  have e3 : wrap64 ((p : Int) + (h : Int)) = (q : Int) := by rw [w64 (by omega) (by omega)]; omega
  have k4 := hE.e.ck hqn
  have p1 : ((q : Int) < (n : Int)) = True := eq_true (Int.ofNat_lt.2 hqn)
  have p2 : (q < n) = True := eq_true hqn
  clear hE hp hx hh hd hd1 hc hs2 hn hq hqn
  go_enter Tryd.func70, Tryd.ntmps70
  go_wp2
  go_ret
  exact ⟨rfl, Below.refl _ _⟩
theorem rank1 {gr gk n : Nat} {rk : Nat → Nat} {w : World} (h : Env gr gk n rk w) {P : List Nat} (hP : ∀ p ∈ P, p < n) : RankV w 69 #[.pointer (some ⟨gr, 0, none⟩)] P rk :=
 fun p hp w' hB => first1_ok gr gk n p rk w' (h.below hB) (hP p hp)
theorem rank3 {gr gk n : Nat} {rk : Nat → Nat} {w : World} (h : Env gr gk n rk w) {P : List Nat} (hP : ∀ p ∈ P, p < n) : RankV w 71 #[.pointer (some ⟨gr, 0, none⟩)] P rk :=
 fun p hp w' hB => first3_ok gr gk n p rk w' (h.below hB) (hP p hp)
theorem rank2 {gs gn gr gk h : Nat} {x : List Nat} {rk : Nat → Nat} {w : World} (hE : Env2 gs gn gr gk x.length h rk w) (hh : h ≤ 1073741824) (hx : x.length ≤ 1073741824) {P : List Nat} (hP : ∀ p ∈ P, p < x.length) :
  RankV w 70 #[.pointer (some ⟨gs, 0, none⟩), .pointer (some ⟨gn, 0, none⟩), .pointer (some ⟨gr, 0, none⟩)] P (snd2 x h rk) :=
 fun p hp w' hB => second_ok gs gn gr gk h p x rk w' (hE.below hB) (hP p hp) hh hx
end Go.Proofs.YtdifgiceallpiaaDoor.Hd
end
