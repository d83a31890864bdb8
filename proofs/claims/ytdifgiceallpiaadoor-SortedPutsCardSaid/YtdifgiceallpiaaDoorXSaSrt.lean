/- suffix: the order of all ends, by insertion; there is but one. -/
import Derived.Test.YtdifgiceallpiaaDoorXSaDbl
import Derived.Test.YtdifgiceallpiaaDoorXHSa5
import Derived.Test.YtdifgiceallpiaaDoorXHSa10
import Derived.Test.YtdifgiceallpiaaDoorXPx0
import Derived.Test.YtdifgiceallpiaaDoorXPureRgBack
set_option linter.unusedVariables false
set_option linter.unusedSimpArgs false
set_option linter.unusedSectionVars false
section
namespace Go.Proofs.YtdifgiceallpiaaDoor.Sais
section
variable {x : List Nat}
theorem drop_c {p : Nat} (hp : p < x.length) : x.drop p = x.getD p 0 :: x.drop (p + 1) := by
 rw [List.drop_eq_getElem_cons hp, gD hp]
theorem slt_drop : ∀ (k p q : Nat), p + k < x.length + 1 → q + k < x.length + 1 → (∀ m, m < k → txt x (p + m) = txt x (q + m)) → txt x (p + k) < txt x (q + k) → x.drop p < x.drop q := by
 intro k
 induction k with
 | zero =>
  intro p q hp hq _ hl
  rw [Nat.add_zero, Nat.add_zero] at hl
  unfold txt at hl
  by_cases hq2 : q < x.length
  ·rw [if_pos hq2] at hl
   rw [drop_c hq2]
   by_cases hp2 : p < x.length
   ·rw [if_pos hp2] at hl
    rw [drop_c hp2, List.cons_lt_cons_iff]
    exact .inl (by omega)
   ·rw [List.drop_eq_nil_of_le (by omega)]
    exact List.nil_lt_cons _ _
  ·rw [if_neg hq2] at hl
   exact absurd hl (Nat.not_lt_zero _)
 | succ k ih =>
  intro p q hp hq he hl
  have hp2 : p < x.length := by omega
  have hq2 : q < x.length := by omega
  have h0 := he 0 (by omega)
  rw [Nat.add_zero, Nat.add_zero] at h0
  unfold txt at h0
  rw [if_pos hp2, if_pos hq2] at h0
  rw [drop_c hp2, drop_c hq2, List.cons_lt_cons_iff]
  refine .inr ⟨by omega, ih (p + 1) (q + 1) (by omega) (by omega) (fun m hm => ?_) ?_⟩
  ·have := he (m + 1) (by omega)
   rw [show p + 1 + m = p + (m + 1) from by omega, show q + 1 + m = q + (m + 1) from by omega]
   exact this
  ·rw [show p + 1 + k = p + (k + 1) from by omega, show q + 1 + k = q + (k + 1) from by omega]
   exact hl
theorem sa_srt {sa : List Nat} (h : IsSA (x.length + 1) (txt x) sa) : SrtOk x (sa.drop 1) := by
 have hm := h.p.all x.length (Nat.lt_succ_self _)
 cases sa with
 | nil => cases hm
 | cons a t =>
  rw [List.drop_succ_cons, List.drop_zero]
  have ho := List.pairwise_cons.1 h.o
  have ha : a = x.length := by
   rcases List.mem_cons.1 hm with e | e
   ·exact e.symm
   ·obtain ⟨k, h1, h2, h3, h4⟩ := ho.1 _ e
    have : txt x (x.length + k) = 0 := by unfold txt; rw [if_neg (by omega)]
    omega
  have hn := List.nodup_cons.1 h.p.nd
  refine ⟨⟨by have := h.p.len; rw [List.length_cons] at this; omega, hn.2, fun y hy => ?_⟩, ho.2.imp (fun {p q} hpq => ?_)⟩
  ·have := h.p.lt y (List.mem_cons_of_mem _ hy)
   have hne : y ≠ x.length := fun e => hn.1 (by rw [ha, ← e]; exact hy)
   omega
  ·obtain ⟨k, h1, h2, h3, h4⟩ := hpq
   exact slt_drop k p q h1 h2 h3 h4
theorem srt_uniq {a b : List Nat} (ha : SrtOk x a) (hb : SrtOk x b) : a = b := by
 have hp : a.Perm b := (List.perm_ext_iff_of_nodup ha.p.nd hb.p.nd).2 (fun y => ⟨fun h => hb.p.all y (ha.p.lt y h), fun h => ha.p.all y (hb.p.lt y h)⟩)
 exact hp.eq_of_pairwise (fun p q _ _ h1 h2 => absurd (List.lt_trans h1 h2) (List.lt_irrefl _)) ha.o hb.o
end
def plc (x l : List Nat) (i : Nat) : Nat → Nat
 | 0 => 0
 | k + 1 => if x.drop i < x.drop (l.getD k 0) then plc x l i k else k + 1
def inN (x : List Nat) : Nat → List Nat
 | 0 => []
 | j + 1 => (inN x j).take (plc x (inN x j) (x.length - 1 - j) (inN x j).length) ++ (x.length - 1 - j) :: (inN x j).drop (plc x (inN x j) (x.length - 1 - j) (inN x j).length)
def srtN (x : List Nat) : List Nat := inN x x.length
section
variable {x : List Nat}
theorem plc_le (l : List Nat) (i : Nat) : ∀ k, plc x l i k ≤ k := by
 intro k
 induction k with
 | zero => exact Nat.le_refl _
 | succ k ih => unfold plc; split <;> omega
theorem plc_hi (l : List Nat) (i : Nat) : ∀ k m, plc x l i k ≤ m → m < k → x.drop i < x.drop (l.getD m 0) := by
 intro k
 induction k with
 | zero => intro m _ h; omega
 | succ k ih =>
  intro m h1 h2
  unfold plc at h1
  split at h1
  ·rename_i h
   rcases Nat.lt_or_ge m k with h3 | h3
   ·exact ih m h1 h3
   ·have : m = k := by omega
    rw [this]; exact h
  ·omega
theorem plc_lo (l : List Nat) (i : Nat) : ∀ k, 0 < plc x l i k → ¬ x.drop i < x.drop (l.getD (plc x l i k - 1) 0) := by
 intro k
 induction k with
 | zero => intro h; exact absurd h (by unfold plc; omega)
 | succ k ih =>
  unfold plc
  split
  ·exact ih
  ·rename_i h
   intro _
   rw [Nat.add_sub_cancel]; exact h
structure InN (x : List Nat) (j : Nat) (l : List Nat) : Prop where
 len : l.length = j
 nd : l.Nodup
 lt : ∀ y ∈ l, y < x.length
 ge : ∀ y ∈ l, x.length - j ≤ y
 o : l.Pairwise (fun p q => x.drop p < x.drop q)
theorem inN_ok : ∀ j, j ≤ x.length → InN x j (inN x j) := by
 intro j
 induction j with
 | zero => intro _; exact ⟨rfl, List.nodup_nil, (fun _ h => nomatch h), (fun _ h => nomatch h), List.Pairwise.nil⟩
 | succ j ih =>
  intro hj
  have I := ih (by omega)
  unfold inN
  generalize inN x j = l at I
  generalize hi : x.length - 1 - j = i
  have hni : i ∉ l := fun h => by have := I.ge i h; omega
  have hil : i < x.length := by omega
  have hle := plc_le (x := x) l i l.length
  have hhi := plc_hi (x := x) l i l.length
  have hlo := plc_lo (x := x) l i l.length
  generalize plc x l i l.length = a at hle hhi hlo
  have gm : ∀ m, m < l.length → l.getD m 0 ∈ l := fun m hm => by rw [List.getD_eq_getElem?_getD, List.getElem?_eq_getElem hm]; exact List.getElem_mem _
  have hL : ∀ p ∈ l.take a, x.drop p < x.drop i := by
   intro p hp
   have ha : 0 < a := by
    rcases Nat.eq_zero_or_pos a with e | e
    ·rw [e, List.take_zero] at hp; cases hp
    ·exact e
   have h1 := hlo ha
   have hm := gm (a - 1) (by omega)
   have hz : x.drop (l.getD (a - 1) 0) < x.drop i := by
    rcases List.le_iff_lt_or_eq.1 (List.not_lt.1 h1) with h | h
    ·exact h
    ·exact absurd h (drop_ne (I.lt _ hm) hil (fun e => hni (by rw [← e]; exact hm)))
   obtain ⟨m, hml, he⟩ := List.mem_iff_getElem.1 hp
   rw [List.length_take] at hml
   rw [List.getElem_take] at he
   rcases Nat.lt_or_ge m (a - 1) with h | h
   ·have := List.pairwise_iff_getElem.1 I.o m (a - 1) (by omega) (by omega) h
    rw [he] at this
    rw [List.getD_eq_getElem?_getD, List.getElem?_eq_getElem (by omega)] at hz
    exact List.lt_trans this hz
   ·have em : m = a - 1 := by omega
    subst em
    rw [List.getD_eq_getElem?_getD, List.getElem?_eq_getElem (by omega)] at hz
    rw [← he]; exact hz
  have hR : ∀ q ∈ l.drop a, x.drop i < x.drop q := by
   intro q hq
   obtain ⟨m, hml, he⟩ := List.mem_iff_getElem.1 hq
   rw [List.length_drop] at hml
   rw [List.getElem_drop] at he
   have := hhi (a + m) (by omega) (by omega)
   rw [List.getD_eq_getElem?_getD, List.getElem?_eq_getElem (by omega)] at this
   rw [← he]; exact this
  have hmem : ∀ y, y ∈ l.take a ++ i :: l.drop a ↔ y = i ∨ y ∈ l := by
   intro y
   rw [List.mem_append, List.mem_cons]
   constructor
   ·rintro (h | h | h)
    ·exact .inr (List.mem_of_mem_take h)
    ·exact .inl h
    ·exact .inr (List.mem_of_mem_drop h)
   ·rintro (h | h)
    ·exact .inr (.inl h)
    ·rw [← List.take_append_drop a l, List.mem_append] at h
     rcases h with h | h
     ·exact .inl h
     ·exact .inr (.inr h)
  have ho : (l.take a ++ i :: l.drop a).Pairwise (fun p q => x.drop p < x.drop q) := by
   refine List.pairwise_append.2 ⟨I.o.sublist (List.take_sublist _ _), List.pairwise_cons.2 ⟨hR, I.o.sublist (List.drop_sublist _ _)⟩, fun p hp q hq => ?_⟩
   rcases List.mem_cons.1 hq with h | h
   ·rw [h]; exact hL p hp
   ·exact List.lt_trans (hL p hp) (hR q h)
  refine ⟨?_, ?_, fun y hy => ?_, fun y hy => ?_, ho⟩
  ·rw [List.length_append, List.length_cons, List.length_take, List.length_drop]
   have := I.len
   omega
  ·exact List.nodup_iff_pairwise_ne.2 (ho.imp (fun {p q} (h : x.drop p < x.drop q) (e : p = q) => List.lt_irrefl (x.drop q) (by rw [e] at h; exact h)))
  ·rcases (hmem y).1 hy with h | h
   ·omega
   ·exact I.lt y h
  ·rcases (hmem y).1 hy with h | h
   ·omega
   ·have := I.ge y h; omega
theorem srtN_ok (x : List Nat) : SrtOk x (srtN x) := by
 have h := inN_ok (x := x) x.length (Nat.le_refl _)
 exact ⟨⟨h.len, h.nd, h.lt⟩, h.o⟩
theorem srt_is {a : List Nat} (ha : SrtOk x a) : a = srtN x := srt_uniq ha (srtN_ok x)
end
example : srtN [98, 97, 110, 97, 110, 97] = [5, 3, 1, 0, 4, 2] := by decide +kernel
end Go.Proofs.YtdifgiceallpiaaDoor.Sais
end
section
namespace Go.Proofs.YtdifgiceallpiaaDoor.Hd
open Go Go.RowKit Go.Proofs.YtdifgiceallpiaaDoorW.PrintWords Go.Proofs.YtdifgiceallpiaaDoorW.PrintLast Go.Proofs.YtdifgiceallpiaaDoorW.PrintMore Go.Proofs.YtdifgiceallpiaaDoor.Hw Go.Proofs.YtdifgiceallpiaaDoor.Com Go.Proofs.YtdifgiceallpiaaDoor.Cn Go.Proofs.YtdifgiceallpiaaDoor.P Go.Proofs.YtdifgiceallpiaaDoor.Sais
attribute [local go_sem] za9 za8 zbi zbj za0 za1 zba zbb
set_option maxHeartbeats 4000000 in
set_option maxRecDepth 100000 in
theorem sort_ok (x : ByteArray) (w : World) (hx : x.size ≤ 1073741824) : Calls Tryd.prog 21 #[.string x] w fun e w' => ∃ v : Value, e = .returned v ∧ Kd.Q (Kd.int .i64) 3 w' w.heap.size (fun _ => True) v (iN (srtN (nb x))) ∧ Below w.heap.size w w' := by
  by_cases h : 24 < x.size
  · have t1 : decide ((24 : Int) < (x.size : Int)) = true := decide_eq_true (by omega)
    have t2 : decide (24 < x.size) = true := decide_eq_true h
    have HX := zaa.mk hx
    clear hx h
    go_enter Tryd.func21, Tryd.ntmps21
    go_wp2_with (first
      | (go_at_call 47; with_reducible refine (quick_ok x w HX.out).mono ?_; rintro e w1 ⟨v, sa, rfl, hQ, hS, hB⟩; have R := zaa.mk (And.intro hQ (And.intro hS hB)); clear hQ hS hB))
    go_ret
    obtain ⟨hQ, hS, hB⟩ := R.out
    rw [← zas] at hS
    rw [srt_is (sa_srt hS)] at hQ
    exact ⟨v, rfl, hQ, hB⟩
  · have t1 : decide ((24 : Int) < (x.size : Int)) = false := decide_eq_false (by omega)
    have t2 : decide (24 < x.size) = false := decide_eq_false h
    have HX := zaa.mk h
    clear hx h
    go_enter Tryd.func21, Tryd.ntmps21
    go_wp2_with (first
      | (go_at_call 48; with_reducible refine (doubled_ok x w (by have := HX.out; omega)).mono ?_; rintro e w1 ⟨g, sa, rfl, hG, hK, hS, hB⟩; have R := zaa.mk (And.intro hG (And.intro hK (And.intro hS hB))); clear hG hK hS hB))
    go_ret
    obtain ⟨hG, hK, hS, hB⟩ := R.out
    have hl : (iN sa).length = x.size := by rw [zb1, hS.p.len, zas]
    have hR := hK.R hG (by rw [hl]; have := HX.out; simp [maxLen]; omega) (fun _ => True) trivial
    rw [hl, srt_is hS] at hR
    exact ⟨_, rfl, Kd.Q_of_R hR, hB⟩
end Go.Proofs.YtdifgiceallpiaaDoor.Hd
end
section
namespace Go.Proofs.YtdifgiceallpiaaDoor.Hd
open Go Go.RowKit Go.Proofs.YtdifgiceallpiaaDoorW.PrintWords Go.Proofs.YtdifgiceallpiaaDoorW.PrintLast Go.Proofs.YtdifgiceallpiaaDoorW.PrintMore Go.Proofs.YtdifgiceallpiaaDoor.Hw Go.Proofs.YtdifgiceallpiaaDoor.Com Go.Proofs.YtdifgiceallpiaaDoor.Cn  Go.Proofs.YtdifgiceallpiaaDoor.Sais
def zb5.f (s : ByteArray) : Option (List Int) := if s.size ≤ 1073741824 then some (iN (srtN (nb s))) else none
theorem zb5.calls (s : ByteArray) (r : List Int) (w : World) (h : zb5.f s = some r) :
    Calls Tryd.prog 21 #[.string s] w fun e w' => ∃ v0_ : Value, e = .returned (v0_) ∧ Kd.Q (Kd.int .i64) 3 w' w.heap.size (fun _ => True) v0_ r ∧ Below w.heap.size w w' := by
  unfold zb5.f at h
  split at h
  · rename_i hs
    obtain rfl := Option.some.inj h
    exact sort_ok s w hs
  · cases h
end Go.Proofs.YtdifgiceallpiaaDoor.Hd
end
section
-- Laid by this session's driver (wip/tools/myprint.py) over the kit's print program.
namespace Go.Proofs.YtdifgiceallpiaaDoor.Pa
end Go.Proofs.YtdifgiceallpiaaDoor.Pa
namespace Go.Proofs.YtdifgiceallpiaaDoor.Hd
end Go.Proofs.YtdifgiceallpiaaDoor.Hd
namespace Go.Proofs.YtdifgiceallpiaaDoor.P
open Go.RowKit YtdifgiceallpiaaDoor.Pa YtdifgiceallpiaaDoor.Hd YtdifgiceallpiaaDoorW.PrintWords YtdifgiceallpiaaDoorW.PrintLast YtdifgiceallpiaaDoorW.PrintMore
attribute [local go_sem] za9 za8 zbi zbj za0 za1 zba zbb   -- for this text's walks alone
def zbv.l0 : Nat → ByteArray → List Int → Int → List Int → Int → Int → Option (ByteArray × Int)
 | 0, _, _, _, _, _, _ => none
 | k + 1, x0, x4, x5, x17, x18, x19 => if x19 < x18 then (if 0 ≤ x19 then (if x19 < (x17.length : Int) then (if (rd x17 x19) = 0 then (zbv.l0 k x0 x4 (wrap64 (x19 + 1)) x17 x18 (wrap64 (x19 + 1))) else (if 0 ≤ (wrap64 ((rd x17 x19) - 1)) then (if (wrap64 ((rd x17 x19) - 1)) < (x0.size : Int) then (if x4.length < 140737488355328 then (zbv.l0 k x0 (x4 ++ [bt x0 (wrap64 ((rd x17 x19) - 1))]) x5 x17 x18 (wrap64 (x19 + 1))) else (none)) else (none)) else (none))) else (none)) else (none)) else (some (strOfNums x4, x5))
def zbv.f (k : Nat) (a0 : ByteArray) : Option (ByteArray × Int) := if a0.toList = ([] : List UInt8) then (some ((⟨#[]⟩ : ByteArray), 0)) else (if 0 ≤ (wrap64 ((a0.size : Int) - 1)) then (if (wrap64 ((a0.size : Int) - 1)) < (a0.size : Int) then ((zb5.f a0).bind fun t155 => (zbv.l0 k a0 (([bt a0 (wrap64 ((a0.size : Int) - 1))] : List Int)) 0 t155 (t155.length : Int) 0)) else (none)) else (none))
theorem zbv.calls (k : Nat) (a0 : ByteArray) (r1 : ByteArray) (r2 : Int) (w : World) (h : zbv.f k a0 = some (r1, r2)) :
  Calls Tryd.prog 9 #[.string a0] w fun e w' => e = .returned (.tuple #[.string r1, .int .i64 r2]) ∧ Below w.heap.size w w' := by
 have HB := zaa.mk (Below.refl w.heap.size w)
 have H : (if a0.toList = ([] : List UInt8) then (some ((⟨#[]⟩ : ByteArray), 0)) else (if 0 ≤ (wrap64 ((a0.size : Int) - 1)) then (if (wrap64 ((a0.size : Int) - 1)) < (a0.size : Int) then ((zb5.f a0).bind fun t155 => (zbv.l0 k a0 (([bt a0 (wrap64 ((a0.size : Int) - 1))] : List Int)) 0 t155 (t155.length : Int) 0)) else (none)) else (none))) = some (r1, r2) := h
 clear h
 by_cases c2 : a0.toList = ([] : List UInt8)
 ·rw [if_pos c2] at H
  have c2b0 : (a0.toList == ([] : List UInt8)) = true := beq_iff_eq.mpr c2
  have c2b1 : (a0.toList != ([] : List UInt8)) = false := bne_eq_false_iff_eq.mpr c2
  clear c2
  simp only [Option.some.injEq, Prod.mk.injEq] at H
  obtain ⟨rfl, rfl⟩ := H
  go_enter Tryd.func9, Tryd.ntmps9
  go_wp2
  go_ret2
  exact ⟨by first | rfl | (simp [errW_none, errW_some] <;> rfl) | (simp [*, errW_none, errW_some] <;> rfl), by repeat (first | exact HB.out | apply zac | apply zab | apply zad)⟩
 ·rw [if_neg c2] at H
  have c2b0 : (a0.toList == ([] : List UInt8)) = false := beq_eq_false_iff_ne.mpr c2
  have c2b1 : (a0.toList != ([] : List UInt8)) = true := bne_iff_ne.mpr c2
  obtain ⟨ji3, hji3⟩ : ∃ j_ : Int, (wrap64 ((a0.size : Int) - 1)) = j_ := ⟨_, rfl⟩
  replace H : (if 0 ≤ (ji3) then (if (ji3) < (a0.size : Int) then ((zb5.f a0).bind fun t155 => (zbv.l0 k a0 (([bt a0 (ji3)] : List Int)) 0 t155 (t155.length : Int) 0)) else (none)) else (none)) = some (r1, r2) := by first | (rw [hji3] at H; exact H) | (simp only [hji3] at H ⊢; exact H)
  have hji3w : (IntKind.i64.wrap ((a0.size : Int) - 1)) = ji3 := (i64_w _).trans hji3
  by_cases c4 : 0 ≤ (ji3)
  ·rw [if_pos c4] at H
   have c4b0 : decide (0 ≤ (ji3)) = true := decide_eq_true c4
   clear c4
   by_cases c5 : (ji3) < (a0.size : Int)
   ·rw [if_pos c5] at H
    have c5b0 : decide ((ji3) < (a0.size : Int)) = true := decide_eq_true c5
    clear c5
    obtain ⟨y152, hy152⟩ : ∃ y_ : List Int, y_ = (([bt a0 (ji3)] : List Int)) := ⟨_, rfl⟩
    replace H : ((zb5.f a0).bind fun t155 => (zbv.l0 k a0 y152 0 t155 (t155.length : Int) 0)) = some (r1, r2) := by first | (rw [hy152]; with_reducible exact H) | (have H2_ := (Option.bind_some _ _).symm.trans H; rw [hy152]; with_reducible exact H2_) | (have H2_ := (Option.bind_some _ _).symm.trans H; with_reducible exact H2_) | with_reducible exact H | (rw [hy152]; exact H) | exact H
    have Ny152 := zaa.mk hy152
    clear hy152
    replace H := Option.bind_eq_some_iff.mp H
    obtain ⟨t155, A70, H⟩ := H
    have A7 := zaa.mk A70
    clear A70
    have H' := zaa.mk H
    clear H
    have p6 : 0 ≤ ((ji3) : Int) := of_decide_eq_true (by first | (with_reducible assumption) | assumption)
    have q6 : (ji3) < (a0.size : Int) := of_decide_eq_true (by first | (with_reducible assumption) | assumption)
    have hx6 := bt_at a0 (ji3)
    replace p6 := eq_true p6
    replace q6 := eq_true q6
    go_enter Tryd.func9, Tryd.ntmps9
    go_wp2_with (first | ((with_reducible refine zay (N := 15) rfl ?_); refine Kd.R_lit (Kd.int .u8) _ 5 ?hg (N := 15) ?hd (xs := ([bt a0 (ji3)] : List Int)) (inner := [.int .u8 (bt a0 (ji3))]) (ok := fun _ => True) (okp := fun _ => True) ?hr ?hp (fun _ hk => hk) trivial (Below.refl _ _) (Nat.le_refl _) (by simp) ?_; (case hd => rfl); (case hg => rfl); (case hr => first | (go_simp; done) | (go_simp; rfl)); (case hp => exact (Reps.one (show Kd.M (Kd.int .u8) _ _ _ (bt a0 (ji3)) [.int .u8 (bt a0 (ji3))] from rfl) (Reps.none _ _))); intro v153 w8 ho9 hb hg_ hnew_; clear hg_ hnew_; (first | rw [← Ny152.out] at ho9 | (simp only [Int.reduceToNat] at ho9; rw [← Ny152.out] at ho9)); have n0_ := zaa.mk (Kd.R_lower ho9 (zam (by repeat (first | exact HB.out | apply zac | apply zab | apply zad)))); have n1_ := zaa.mk (zaf (by repeat (first | exact HB.out | apply zac | apply zab | apply zad)) hb); clear HB; have HO154 := n0_; have HB := n1_; clear n0_ n1_; clear hb ho9) | ((with_reducible refine zbc (f := 21) rfl ?_); refine zb6 (some 17) rfl rfl Tryd.func21 (by kernel_rfl) rfl #[.string a0] rfl (by (try simp only [List.map_toArray, List.map_cons, List.map_nil]); first | done | rfl | (simp only [List.length_drop, List.length_take]; rfl)) ?_; (with_reducible refine (zb5.calls a0 t155 _ A7.out).mono ?_); rintro e w10 ⟨v156, rfl, ho0, hb⟩; refine ⟨_, rfl, ?_⟩; have n0_ := zaa.mk (Kd.R_below (by (with_reducible repeat (first | apply Kd.R_alloc | apply Kd.R_drewN | apply Kd.R_drew)); exact HO154.out) hb); have n1_ := zaa.mk (Kd.Q_lower ho0 (zam (by repeat (first | exact HB.out | apply zac | apply zab | apply zad)))); have n2_ := zaa.mk (zaf (by repeat (first | exact HB.out | apply zac | apply zab | apply zad)) hb); clear HO154; clear HB; have HO154 := n0_; have HO157 := n1_; have HB := n2_; clear n0_ n1_ n2_; (try clear hb); (try clear hb2); (try clear hk); (try clear hi); (try clear ho0); obtain ⟨Ao11, co11, eo11, _⟩ := Kd.Q_slice HO157.out; subst eo11))
    go_loopg [4, 5, 19] k (fun kq v4 v5 v19 w' => ∃ (x4_1 : List Int) (x5_1 : Int) (x19_1 : Int), v5 = .int .i64 x5_1 ∧ v19 = .int .i64 x19_1 ∧ zaa (zbv.l0 kq a0 x4_1 x5_1 t155 (t155.length : Int) x19_1 = some (r1, r2)) ∧ zaa (kq ≤ k) ∧ zaa (Kd.R (Kd.int .u8) 5 w' w.heap.size (fun _ => True) v4 x4_1) ∧ zaa (Kd.Q (Kd.int .i64) 3 w' w.heap.size (fun _ => True) (.slice Ao11 t155.length co11) t155) ∧ zaa (Below w.heap.size w w'))
    case atStart => exact ⟨(y152), (0), (0), rfl, rfl, H', ⟨Nat.le_refl _⟩, ⟨by (with_reducible repeat (first | apply Kd.R_alloc | apply Kd.R_drewN | apply Kd.R_drew)); exact HO154.out⟩, ⟨by (with_reducible repeat (first | apply Kd.Q_alloc | apply Kd.Q_drewN | apply Kd.Q_drew)); exact HO157.out⟩, ⟨by repeat (first | exact HB.out | apply zac | apply zab | apply zad)⟩⟩
    case round =>
     clear H'
     obtain ⟨x4_1, x5_1, x19_1, rfl, rfl, HA, HK1, HO_4, HO_17, HB⟩ := hrel
     cases gk with
     | zero => exact absurd HA.out (by simp [zbv.l0])
     | succ k1 =>
      have H := HA.out
      clear HA
      simp only [zbv.l0] at H
      by_cases c12 : x19_1 < (t155.length : Int)
      ·rw [if_pos c12] at H
       have c12b0 : decide (x19_1 < (t155.length : Int)) = true := decide_eq_true c12
       clear c12
       by_cases c13 : 0 ≤ x19_1
       ·rw [if_pos c13] at H
        have c13b0 : decide (0 ≤ x19_1) = true := decide_eq_true c13
        clear c13
        by_cases c14 : x19_1 < (t155.length : Int)
        ·rw [if_pos c14] at H
         have c14b0 : decide (x19_1 < (t155.length : Int)) = true := decide_eq_true c14
         clear c14
         by_cases c15 : (rd t155 x19_1) = 0
         ·rw [if_pos c15] at H
          have c15b0 : ((rd t155 x19_1) == 0) = true := beq_iff_eq.mpr c15
          have c15b1 : ((rd t155 x19_1) != 0) = false := bne_eq_false_iff_eq.mpr c15
          clear c15
          have H' := zaa.mk H
          clear H
          have p158 : 0 ≤ (x19_1 : Int) := of_decide_eq_true (by first | (with_reducible assumption) | assumption)
          have q158 : x19_1 < (t155.length : Int) := of_decide_eq_true (by first | (with_reducible assumption) | assumption)
          obtain ⟨ad158, e158, hx158_0⟩ := Kd.at_int (Kd.Q_reads' HO_17.out).2.2 x19_1 p158 q158
          cases e158
          replace p158 := eq_true p158
          replace q158 := eq_true q158
          go_wp2
          go_roundg k1
          case measure => have := HK1.out; omega
          case rel => exact ⟨(x4_1), (wrap64 (x19_1 + 1)), (wrap64 (x19_1 + 1)), rfl, rfl, H', ⟨by have := HK1.out; omega⟩, ⟨by (with_reducible repeat (first | apply Kd.R_alloc | apply Kd.R_drewN | apply Kd.R_drew)); exact HO_4.out⟩, ⟨by (with_reducible repeat (first | apply Kd.Q_alloc | apply Kd.Q_drewN | apply Kd.Q_drew)); exact HO_17.out⟩, ⟨by repeat (first | exact HB.out | apply zac | apply zab | apply zad)⟩⟩
         ·rw [if_neg c15] at H
          have c15b0 : ((rd t155 x19_1) == 0) = false := beq_eq_false_iff_ne.mpr c15
          have c15b1 : ((rd t155 x19_1) != 0) = true := bne_iff_ne.mpr c15
          obtain ⟨ji16, hji16⟩ : ∃ j_ : Int, (wrap64 ((rd t155 x19_1) - 1)) = j_ := ⟨_, rfl⟩
          replace H : (if 0 ≤ (ji16) then (if (ji16) < (a0.size : Int) then (if x4_1.length < 140737488355328 then (zbv.l0 k1 a0 (x4_1 ++ [bt a0 (ji16)]) x5_1 t155 (t155.length : Int) (wrap64 (x19_1 + 1))) else (none)) else (none)) else (none)) = some (r1, r2) := by first | (rw [hji16] at H; exact H) | (simp only [hji16] at H ⊢; exact H)
          have hji16w : (IntKind.i64.wrap ((rd t155 x19_1) - 1)) = ji16 := (i64_w _).trans hji16
          by_cases c17 : 0 ≤ (ji16)
          ·rw [if_pos c17] at H
           have c17b0 : decide (0 ≤ (ji16)) = true := decide_eq_true c17
           clear c17
           by_cases c18 : (ji16) < (a0.size : Int)
           ·rw [if_pos c18] at H
            have c18b0 : decide ((ji16) < (a0.size : Int)) = true := decide_eq_true c18
            clear c18
            by_cases c20 : x4_1.length < 140737488355328
            ·rw [if_pos c20] at H
             have LMc20 := zaa.mk c20
             clear c20
             obtain ⟨y159, hy159⟩ : ∃ y_ : List Int, y_ = (x4_1 ++ [bt a0 (ji16)]) := ⟨_, rfl⟩
             replace H : (zbv.l0 k1 a0 y159 x5_1 t155 (t155.length : Int) (wrap64 (x19_1 + 1))) = some (r1, r2) := by first | (rw [hy159]; with_reducible exact H) | (have H2_ := (Option.bind_some _ _).symm.trans H; rw [hy159]; with_reducible exact H2_) | (have H2_ := (Option.bind_some _ _).symm.trans H; with_reducible exact H2_) | with_reducible exact H | (rw [hy159]; exact H) | exact H
             have Ny159 := zaa.mk hy159
             clear hy159
             have H' := zaa.mk H
             clear H
             have p158 : 0 ≤ (x19_1 : Int) := of_decide_eq_true (by first | (with_reducible assumption) | assumption)
             have q158 : x19_1 < (t155.length : Int) := of_decide_eq_true (by first | (with_reducible assumption) | assumption)
             obtain ⟨ad158, e158, hx158_0⟩ := Kd.at_int (Kd.Q_reads' HO_17.out).2.2 x19_1 p158 q158
             cases e158
             replace p158 := eq_true p158
             replace q158 := eq_true q158
             have p19 : 0 ≤ ((ji16) : Int) := of_decide_eq_true (by first | (with_reducible assumption) | assumption)
             have q19 : (ji16) < (a0.size : Int) := of_decide_eq_true (by first | (with_reducible assumption) | assumption)
             have hx19 := bt_at a0 (ji16)
             replace p19 := eq_true p19
             replace q19 := eq_true q19
             go_wp2_with (first | ((with_reducible refine zaw (b := .append) (xs := #[.tmp 28, .tmp 33]) rfl ?_); at_builtin; refine Kd.R_append (Kd.int .u8) (w0 := w) w.heap.size rfl (.tmp 28) (.tmp 33) 48 5 (.int .u8 0) 1 rfl Tryd.underlying48 info5 rfl (by decide) (by omega) u4 x4_1 (bt a0 (ji16)) [.int .u8 (bt a0 (ji16))] (fun _ => True) (fun _ => False) rfl rfl ?aP (fun _ hk => hk.elim) ?aF ?aO ?aB ?aS ?aL ?_; (case aP => exact rfl); (case aB => exact (by repeat (first | exact HB.out | apply zac | apply zab | apply zad))); (case aF => exact (fun _ _ => trivial)); (case aO => exact (by (with_reducible repeat (first | apply Kd.R_alloc | apply Kd.R_drewN | apply Kd.R_drew)); exact HO_4.out)); (case aS => exact (zam (by repeat (first | exact HB.out | apply zac | apply zab | apply zad)))); (case aL => have := LMc20.out; omega); intro v160 w21 ho hb hg hat; rw [← Ny159.out] at ho; have n0_ := zaa.mk (Kd.Q_over' (by (with_reducible repeat (first | apply Kd.Q_alloc | apply Kd.Q_drewN | apply Kd.Q_drew)); exact HO_17.out) (Kd.R_typed (by (with_reducible repeat (first | apply Kd.R_alloc | apply Kd.R_drewN | apply Kd.R_drew)); exact HO_4.out)) (by decide) hg); have n1_ := zaa.mk (hb); have n2_ := zaa.mk (ho); clear HO_17; clear HB; clear HO_4; have HO_17 := n0_; have HB := n1_; have HO161 := n2_; clear n0_ n1_ n2_; clear ho hb hg hat))
             go_roundg k1
             case measure => have := HK1.out; omega
             case rel => exact ⟨(y159), (x5_1), (wrap64 (x19_1 + 1)), rfl, rfl, H', ⟨by have := HK1.out; omega⟩, ⟨by (with_reducible repeat (first | apply Kd.R_alloc | apply Kd.R_drewN | apply Kd.R_drew)); exact HO161.out⟩, ⟨by (with_reducible repeat (first | apply Kd.Q_alloc | apply Kd.Q_drewN | apply Kd.Q_drew)); exact HO_17.out⟩, ⟨by repeat (first | exact HB.out | apply zac | apply zab | apply zad)⟩⟩
            ·rw [if_neg c20] at H
             exact absurd H (by simp)
           ·rw [if_neg c18] at H
            exact absurd H (by simp)
          ·rw [if_neg c17] at H
           exact absurd H (by simp)
        ·rw [if_neg c14] at H
         exact absurd H (by simp)
       ·rw [if_neg c13] at H
        exact absurd H (by simp)
      ·rw [if_neg c12] at H
       have c12b0 : decide (x19_1 < (t155.length : Int)) = false := decide_eq_false c12
       clear c12
       simp only [Option.some.injEq, Prod.mk.injEq] at H
       obtain ⟨rfl, rfl⟩ := H
       have hcv22 := own_string (P := Tryd.prog) Tryd.underlying48 Tryd.underlying5 Tryd.underlying9 (Kd.own_of_R HO_4.out)
       go_wp2
       go_ret2
       exact ⟨by first | rfl | (simp [errW_none, errW_some] <;> rfl) | (simp only [← hji3]; first | rfl | (simp [errW_none, errW_some] <;> rfl)) | (simp [*, errW_none, errW_some] <;> rfl), by repeat (first | exact HB.out | apply zac | apply zab | apply zad)⟩
   ·rw [if_neg c5] at H
    exact absurd H (by simp)
  ·rw [if_neg c4] at H
   exact absurd H (by simp)
end Go.Proofs.YtdifgiceallpiaaDoor.P
end
section
namespace Go.Proofs.YtdifgiceallpiaaDoor.Pure
open Go Go.RowKit YtdifgiceallpiaaDoor.P YtdifgiceallpiaaDoorW.PrintWords YtdifgiceallpiaaDoorW.PrintLast YtdifgiceallpiaaDoor.Com YtdifgiceallpiaaDoor.Hd YtdifgiceallpiaaDoor.Hw YtdifgiceallpiaaDoor.Cn YtdifgiceallpiaaDoor.Sais YtdifgiceallpiaaDoor.Bw
theorem idx_ne {p : Nat} (l : List Nat) (h : p ≠ 0) : (p :: l).idxOf 0 = l.idxOf 0 + 1 := by rw [List.idxOf_cons, beq_eq_false_iff_ne.2 h]; rfl
def rws (s : ByteArray) : List Nat := s.size :: srtN (nb s)
def tL (s : ByteArray) : List Nat := tnT (nb s) (rws s)
def tS (s : ByteArray) : ByteArray := strOfNums (iN (tL s))
def tA (s : ByteArray) : Nat := (rws s).idxOf 0
theorem rws_ok (s : ByteArray) : RowsOk (nb s) (rws s) := by
 have h := srtN_ok (nb s)
 unfold rws
 rw [← zas]
 exact rows_of h.p.len h.p.nd h.p.lt h.p.all h.o
theorem rws_len (s : ByteArray) : (rws s).length = s.size + 1 := by rw [(rws_ok s).len, zas]
theorem tA_lt (s : ByteArray) : tA s < (rws s).length := List.idxOf_lt_length_iff.2 ((rws_ok s).all 0 (by omega))
theorem tA_le (s : ByteArray) : tA s ≤ s.size := by have := tA_lt s; rw [rws_len] at this; omega
theorem tA_at (s : ByteArray) : (rws s).getD (tA s) 0 = 0 := by
 rw [Bw.gD (tA_lt s)]
 exact List.getElem_idxOf (tA_lt s)
theorem tL_len (s : ByteArray) : (tL s).length = s.size := (tn_len (rws_ok s) (tA_lt s) (tA_at s)).trans (zas s)
theorem getD_lt {x : List Nat} (h : ∀ y ∈ x, y < 256) (i : Nat) : x.getD i 0 < 256 := by
 rw [List.getD_eq_getElem?_getD]
 cases e : x[i]? with
 | none => simp
 | some v => exact h v (List.mem_of_getElem? e)
theorem tL_lt (s : ByteArray) : ∀ x ∈ tL s, x < 256 := by
 intro x hx
 unfold tL tnT at hx
 obtain ⟨p, _, rfl⟩ := List.mem_map.1 hx
 exact getD_lt (nb_lt s) _
theorem nb_tS (s : ByteArray) : nb (tS s) = tL s := nb_str _ (tL_lt s)
theorem tS_size (s : ByteArray) : (tS s).size = s.size := by rw [← zas, nb_tS, tL_len]
theorem turn_l0 {s : ByteArray} (hs : s.size ≤ 1073741824) {l : List Nat} (hl : l.length ≤ s.size) (hm : ∀ y ∈ l, y < s.size) (hn : l.Nodup) (d : Nat) : ∀ (i : Nat) (b : List Nat) (a : Nat), i + d = l.length → b.length ≤ i + 1 →
  Ev (fun k => zbv.l0 k s (iN b) (a : Int) (iN l) (l.length : Int) (i : Int)) (strOfNums (iN (b ++ ((l.drop i).filter (fun p => p ≠ 0)).map (fun p => (nb s).getD (p - 1) 0))), (((if 0 ∈ l.drop i then i + (l.drop i).idxOf 0 + 1 else a : Nat)) : Int)) := by
 induction d with
 | zero =>
  intro i b a hi hb
  refine Ev.step (f := fun _ => some _) (fun k => ?_) (Ev.now _)
  simp only [zbv.l0]
  rw [if_neg (by omega), List.drop_eq_nil_of_le (by omega)]
  simp
 | succ d ih =>
  intro i b a hi hb
  have hil : i < l.length := by omega
  have hp := hm (l.getD i 0) (by rw [Bw.gD hil]; exact List.getElem_mem _)
  have hrd : rd (iN l) (i : Int) = ((l.getD i 0 : Nat) : Int) := by rw [rd_nat, iN_getD]
  have hd : l.drop i = l.getD i 0 :: l.drop (i + 1) := Bw.drop_cc hil
  have hno : l.getD i 0 ∉ l.drop (i + 1) := by
   have h := hn.sublist (List.drop_sublist i l)
   rw [hd] at h
   exact (List.nodup_cons.1 h).1
  generalize l.getD i 0 = p at hp hrd hd hno
  rw [hd]
  by_cases h0 : p = 0
  ·subst h0
   have := ih (i + 1) b (i + 1) (by omega) (by omega)
   rw [if_neg hno] at this
   rw [List.filter_cons_of_neg (by simp), if_pos List.mem_cons_self, List.idxOf_cons_self]
   refine Ev.step (fun k => ?_) this
   simp only [zbv.l0]
   rw [if_pos (by omega), if_pos (by omega), if_pos (by rw [zb1]; omega), hrd, if_pos (by rfl), w64 (by omega) (by omega)]
   rfl
  ·have := ih (i + 1) (b ++ [(nb s).getD (p - 1) 0]) a (by omega) (by rw [List.length_append, List.length_singleton]; omega)
   rw [List.filter_cons_of_pos (by simp [h0]), List.map_cons]
   rw [List.append_assoc, List.singleton_append] at this
   have e : (if 0 ∈ l.drop (i + 1) then i + 1 + (l.drop (i + 1)).idxOf 0 + 1 else a) = (if 0 ∈ p :: l.drop (i + 1) then i + (p :: l.drop (i + 1)).idxOf 0 + 1 else a) := by
    have e1 : (0 ∈ p :: l.drop (i + 1)) ↔ 0 ∈ l.drop (i + 1) := by simp [Ne.symm h0]
    by_cases h : 0 ∈ l.drop (i + 1)
    ·rw [if_pos h, if_pos (e1.2 h), idx_ne _ h0]; omega
    ·rw [if_neg h, if_neg (fun z => h (e1.1 z))]
   rw [e] at this
   refine Ev.step (fun k => ?_) this
   simp only [zbv.l0]
   have eb : iN b ++ [bt s ((p - 1 : Nat) : Int)] = iN (b ++ [(nb s).getD (p - 1) 0]) := by rw [bt_nb]; unfold iN; simp
   rw [if_pos (by omega), if_pos (by omega), if_pos (by rw [zb1]; omega), hrd, if_neg (by omega), w64 (x := (p : Int) - 1) (by omega) (by omega), show (p : Int) - 1 = ((p - 1 : Nat) : Int) from by omega, if_pos (by omega), if_pos (by omega), if_pos (by rw [zb1]; omega), eb, w64 (by omega) (by omega)]
   rfl
theorem srt_facts (s : ByteArray) : (srtN (nb s)).length = s.size ∧ (∀ y ∈ srtN (nb s), y < s.size) ∧ (srtN (nb s)).Nodup ∧ (0 < s.size → 0 ∈ srtN (nb s)) := by
 have h := srtN_ok (nb s)
 exact ⟨by rw [h.p.len, zas], fun y hy => by have := h.p.lt y hy; rw [zas] at this; exact this, h.p.nd, fun h0 => h.p.all 0 (by rw [zas]; exact h0)⟩
theorem tn_cons {s : ByteArray} (h0 : 0 < s.size) : tL s = (nb s).getD (s.size - 1) 0 :: ((srtN (nb s)).filter (fun p => p ≠ 0)).map (fun p => (nb s).getD (p - 1) 0) ∧ tA s = (srtN (nb s)).idxOf 0 + 1 := by
 unfold tL tnT tA rws
 rw [List.filter_cons_of_pos (p := fun p => decide (p ≠ 0)) (decide_eq_true (by omega)), List.map_cons, idx_ne _ (by omega)]
 exact ⟨rfl, rfl⟩
theorem tn_nil {s : ByteArray} (h0 : s.size = 0) : tL s = [] ∧ tA s = 0 := by
 have h := srt_facts s
 have e : srtN (nb s) = [] := List.eq_nil_of_length_eq_zero (by rw [h.1, h0])
 unfold tL tnT tA rws
 rw [e, h0]
 exact ⟨rfl, rfl⟩
theorem turn_ev {s : ByteArray} (hs : s.size ≤ 1073741824) : Ev (fun k => zbv.f k s) (tS s, (tA s : Int)) := by
 unfold zbv.f
 by_cases h : s.toList = []
 ·have h0 : s.size = 0 := by
   have := congrArg List.length h
   rw [ByteArray.toList_eq] at this
   simpa using this
  refine Ev.ifp h ?_
  have := tn_nil h0
  unfold tS
  rw [this.1, this.2]
  exact Ev.now _
 ·have h0 : 0 < s.size := by
   rcases Nat.eq_zero_or_pos s.size with e | e
   ·exact absurd (List.eq_nil_of_length_eq_zero (by rw [ByteArray.toList_eq]; simpa using e)) h
   ·exact e
  have F := srt_facts s
  have T := tn_cons h0
  have L := turn_l0 hs (by rw [F.1]; omega) F.2.1 F.2.2.1 (srtN (nb s)).length 0 [(nb s).getD (s.size - 1) 0] 0 (by omega) (by simp)
  rw [List.drop_zero, if_pos (F.2.2.2 h0), List.singleton_append, ← T.1, Nat.zero_add, ← T.2] at L
  refine Ev.ifn h ?_
  have e : zb5.f s = some (iN (srtN (nb s))) := by unfold zb5.f; rw [if_pos hs]
  rw [w64 (by omega) (by omega), show (s.size : Int) - 1 = ((s.size - 1 : Nat) : Int) from by omega, bt_nb, e]
  refine Ev.ifp (by omega) (Ev.ifp (by omega) ?_)
  simp only [Option.bind_some]
  rw [zb1]
  exact L
def bkR (t : List Nat) (a : Nat) : Nat → Nat → List Nat → Option (List Nat)
 | 0, _, s => some s
 | k + 1, i, s => if i = a then none else bkR t a k (bef t a i) (sgn t a i :: s)
def bkO (t : ByteArray) (a : Int) : ByteArray × Int :=
 if a < 0 ∨ (t.size : Int) < a ∨ (a = 0 ∧ t.size ≠ 0) then (⟨#[]⟩, 2) else
 match bkR (nb t) a.toNat t.size 0 [] with
 | none => (⟨#[]⟩, 4)
 | some l => if tS (strOfNums (iN l)) = t ∧ (tA (strOfNums (iN l)) : Int) = a then (strOfNums (iN l), 0) else (⟨#[]⟩, 4)
theorem bkR_some {t : List Nat} {a : Nat} (k : Nat) : ∀ (i : Nat) (s l : List Nat), bkR t a k i s = some l → l.length = s.length + k ∧ bkL t a k i s = l := by
 induction k with
 | zero => intro i s l h; unfold bkR at h; obtain rfl := Option.some.inj h; exact ⟨rfl, rfl⟩
 | succ k ih =>
  intro i s l h
  unfold bkR at h
  unfold bkL
  split at h
  ·cases h
  ·rename_i hn
   have := ih _ _ _ h
   rw [if_neg hn]
   exact ⟨by rw [this.1, List.length_cons]; omega, this.2⟩
theorem bkR_none {t : List Nat} {a : Nat} (k : Nat) : ∀ (i : Nat) (s : List Nat), bkR t a k i s = none → (bkL t a k i s).length < s.length + k := by
 induction k with
 | zero => intro i s h; unfold bkR at h; cases h
 | succ k ih =>
  intro i s h
  unfold bkR at h
  unfold bkL
  split at h
  ·rename_i hn; rw [if_pos hn]; omega
  ·rename_i hn
   have := ih _ _ h
   rw [if_neg hn]
   rw [List.length_cons] at this
   omega
end Go.Proofs.YtdifgiceallpiaaDoor.Pure
end
