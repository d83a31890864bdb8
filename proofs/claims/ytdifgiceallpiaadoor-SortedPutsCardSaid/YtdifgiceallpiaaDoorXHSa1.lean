/- suffix: the induced sort's state; turns, heads, tails, walked by hand. -/
import Derived.Test.YtdifgiceallpiaaDoorXSa
import Derived.Test.YtdifgiceallpiaaDoorXHw
import Derived.Test.YtdifgiceallpiaaDoorXCn
import Derived.Test.YtdifgiceallpiaaDoorXByt
import Derived.Test.YtdifgiceallpiaaDoorXPx0
import Derived.StillTailTactics
set_option linter.unusedVariables false
set_option linter.unusedSimpArgs false
set_option linter.unusedSectionVars false
namespace Go.Proofs.YtdifgiceallpiaaDoor.Hd
open Go Go.RowKit YtdifgiceallpiaaDoorW.PrintWords YtdifgiceallpiaaDoorW.PrintLast YtdifgiceallpiaaDoorW.PrintMore YtdifgiceallpiaaDoor.Hw YtdifgiceallpiaaDoor.Com YtdifgiceallpiaaDoor.Cn YtdifgiceallpiaaDoor.P YtdifgiceallpiaaDoor.Sais
attribute [local go_sem] za9 za8 zbi zbj za0 za1 zba zbb
def tabB (n : Nat) (f : Nat → Bool) : List Bool := (List.range n).map f
theorem tabB_length (n : Nat) (f : Nat → Bool) : (tabB n f).length = n := by simp [tabB]
theorem tabB_get {n : Nat} {f : Nat → Bool} {j : Nat} (h : j < n) : (tabB n f)[j]? = some (f j) := by simp [tabB, List.getElem?_range h]
theorem tabB_getD {n : Nat} {f : Nat → Bool} {j : Nat} (h : j < n) : (tabB n f).getD j false = f j := by
 rw [List.getD_eq_getElem?_getD, tabB_get h]; rfl
theorem tabB_congr {n : Nat} {f g : Nat → Bool} (h : ∀ j, j < n → f j = g j) : tabB n f = tabB n g := by
 unfold tabB
 exact List.map_congr_left (fun j hj => h j (List.mem_range.1 hj))
theorem tabB_set {n : Nat} {f : Nat → Bool} (j : Nat) (v : Bool) : (tabB n f).set j v = tabB n (fun i => if i = j then v else f i) := by
 apply List.ext_getElem?
 intro i
 by_cases hi : i < n
 ·rw [tabB_get hi, List.getElem?_set]
  by_cases hj : j = i
  ·subst hj
   simp [tabB_length, hi]
  ·rw [if_neg hj, tabB_get hi, if_neg (fun e => hj e.symm)]
 ·rw [List.getElem?_eq_none (by rw [List.length_set, tabB_length]; omega), List.getElem?_eq_none (by rw [tabB_length]; omega)]
theorem tabB_zero (n : Nat) : List.replicate n false = tabB n (fun _ => false) := by
 apply List.ext_getElem?
 intro i
 by_cases hi : i < n
 ·rw [tabB_get hi, List.getElem?_replicate, if_pos hi]
 ·rw [List.getElem?_eq_none (by rw [List.length_replicate]; omega), List.getElem?_eq_none (by rw [tabB_length]; omega)]
theorem info3 : (Tryd.prog.info? 3).map (fun i => (i.zero, i.size, i.bytes)) = some (some (.int .i64 0), 1, 8) := by kernel_rfl
structure Ind (W : World) (gx : Nat) (A : Option Addr) (c0 gl gz n m : Nat) (s : Nat → Nat) (ls : Nat → Bool) : Prop where
 hx : W.heap[gx]? = some (.cells #[.slice A n c0, .slice (some ⟨gl, 0, none⟩) n n, .slice (some ⟨gz, 0, none⟩) m m] 141 (0, 0))
 hs : Kd.C (Kd.int .i64) W A n (tabn n (fun i => (s i : Int)))
 hl : BlB W gl 4 (tabB n ls)
 hz : Blk W gz .i64 3 (tabn m (fun c => (sz n s c : Int)))
 n1 : n ≤ 1099511627776
 m1 : m ≤ 1099511627776
section
variable {W W1 : World} {gx : Nat} {A : Option Addr} {c0 gl gz n m : Nat} {s : Nat → Nat} {ls : Nat → Bool}
theorem Ind.below (h : Ind W gx A c0 gl gz n m s ls) (hB : Below W.heap.size W W1) : Ind W1 gx A c0 gl gz n m s ls :=
 ⟨za6 h.hx hB, Kd.C_below h.hs hB, h.hl.below hB, h.hz.below hB, h.n1, h.m1⟩
theorem Ind.k0 (h : Ind W gx A c0 gl gz n m s ls) : W.cell? ⟨gx, 0, none⟩ = some (.slice A n c0) := (zah h.hx 0).trans rfl
theorem Ind.k1 (h : Ind W gx A c0 gl gz n m s ls) : W.cell? ⟨gx, 1, none⟩ = some (.slice (some ⟨gl, 0, none⟩) n n) := (zah h.hx 1).trans rfl
theorem Ind.k2 (h : Ind W gx A c0 gl gz n m s ls) : W.cell? ⟨gx, 2, none⟩ = some (.slice (some ⟨gz, 0, none⟩) m m) := (zah h.hx 2).trans rfl
theorem Ind.cl (h : Ind W gx A c0 gl gz n m s ls) {i : Nat} (hi : i < n) : W.cell? ⟨gl, i, none⟩ = some (.bool (ls i)) := by
 have := h.hl.cell i (by rw [tabB_length]; exact hi)
 rw [tabB_getD hi] at this
 exact this
theorem Ind.cz (h : Ind W gx A c0 gl gz n m s ls) {i : Nat} (hi : i < m) : W.cell? ⟨gz, i, none⟩ = some (.int .i64 (sz n s i : Int)) := by
 have := h.hz.cell i (by rw [za2]; exact hi)
 rw [zbr hi] at this
 exact this
theorem Ind.cs (h : Ind W gx A c0 gl gz n m s ls) {i : Nat} (hi : i < n) : ∃ ad : Addr, A = some ad ∧ W.cell? (ad.add i) = some (.int .i64 (s i : Int)) := by
 obtain ⟨ad, h1, h2⟩ := Kd.at_int h.hs (i : Int) (by omega) (by omega)
 rw [Int.toNat_natCast, rd_nat, zbr hi] at h2
 exact ⟨ad, h1, h2⟩
end
theorem hd_succ (n : Nat) (s : Nat → Nat) (c : Nat) : hd n s upB (c + 1) = hd n s upB c + sz n s c := by
 refine cnt_part (fun i _ h1 h2 => ?_) (fun i _ => ?_)
 ·have h1 : s i < c := of_decide_eq_true h1
  have h2 : s i = c := by simpa using h2
  omega
 ·simp [upB]; omega
theorem tl_le (n : Nat) (s : Nat → Nat) (c : Nat) : tl n s c ≤ n := up_n c
theorem hd_le (n : Nat) (s : Nat → Nat) (c : Nat) : hd n s upB c ≤ n := Nat.le_trans (Nat.le_add_right _ _) (up_n (s := s) c)
section
variable (gx : Nat) (A : Option Addr) (c0 gl gz n m : Nat) (s : Nat → Nat) (ls : Nat → Bool) (w : World)
theorem zch (i : Nat) (h : Ind w gx A c0 gl gz n m s ls) (hi : i < n) :
  Calls Tryd.prog 80 #[.pointer (some ⟨gx, 0, none⟩), .int .i64 (i : Int)] w fun e w' => e = .returned (.bool (tn ls i)) ∧ Below w.heap.size w w' := by
 have hc1 := h.k1
 have hn := h.n1
 have p1 : (0 ≤ (i : Int)) = True := eq_true (by omega)
 have p2 : ((i : Int) < (n : Int)) = True := eq_true (by omega)
 by_cases h0 : i = 0
 ·subst h0
  clear h p1 p2
  go_enter Tryd.func80, Tryd.ntmps80
  go_wp2
  go_ret
  exact ⟨rfl, by repeat (first | exact Below.refl _ _ | apply zab | apply zad)⟩
 ·have t1 : decide ((0 : Int) < (i : Int)) = true := decide_eq_true (by omega)
  have t2 : decide (0 < i) = true := decide_eq_true (by omega)
  have t3 : (0 < i) = True := eq_true (by omega)
  have hl := h.cl hi
  cases hb : ls i with
  | false =>
   have e : tn ls i = false := tn_l hb
   rw [hb] at hl
   rw [e]
   clear h h0 hb e
   go_enter Tryd.func80, Tryd.ntmps80
   go_wp2
   go_ret
   exact ⟨rfl, by repeat (first | exact Below.refl _ _ | apply zab | apply zad)⟩
  | true =>
   have e : tn ls i = !ls (i - 1) := by simp [tn, hb]; omega
   have hl2 := h.cl (show i - 1 < n by omega)
   have ew : wrap64 ((i : Int) - 1) = (i : Int) - 1 := w64 (by omega) (by omega)
   have p3 : (1 ≤ (i : Int)) = True := eq_true (by omega)
   have p4 : ((i : Int) - 1 < (n : Int)) = True := eq_true (by omega)
   have p5 : (0 ≤ (i : Int) - 1) = True := eq_true (by omega)
   rw [hb] at hl
   rw [e]
   clear h h0 hb e
   go_enter Tryd.func80, Tryd.ntmps80
   go_wp2
   go_ret
   exact ⟨rfl, by repeat (first | exact Below.refl _ _ | apply zab | apply zad)⟩
theorem heads_ok (h : Ind w gx A c0 gl gz n m s ls) :
  Calls Tryd.prog 85 #[.pointer (some ⟨gx, 0, none⟩)] w fun e w' => ∃ g : Nat, e = .returned (.slice (some ⟨g, 0, none⟩) m m) ∧ w.heap.size ≤ g ∧ Blk w' g .i64 3 (tabn m (fun c => (hd n s upB c : Int))) ∧ Below w.heap.size w w' := by
 have hc2 := h.k2
 have H := zaa.mk h
 clear h
 go_enter Tryd.func85, Tryd.ntmps85
 go_wp2_with (first
  | ((with_reducible refine zay (N := 12) rfl ?_); refine zce rfl rfl m rfl rfl Tryd.underlying29 .i64 info3 (by decide) (by have := H.out.m1; omega) ?_; intro g w2 G2 B2 C2; have M2 := zaa.mk (H.out.below C2.out); have hc2' := M2.out.k2))
 have B2' := zaa.mk (show Blk w2 g .i64 3 (tabn m (fun c => if c < 0 then (hd n s upB c : Int) else 0)) from by have := B2.out; rw [zb8] at this; exact this)
 clear hc2 hc2' M2 B2
 go_loopg [4, 18] m (fun q v4 v18 w' => ∃ (L : Int) (i : Nat), v4 = .int .i64 (hd n s upB i : Int) ∧ v18 = .int .i64 L ∧ zaa (L = (i : Int) ∧ i + q = m) ∧ zaa (Blk w' g .i64 3 (tabn m (fun c => if c < i then (hd n s upB c : Int) else 0))) ∧ zaa (Below w.heap.size w w'))
 case atStart => exact ⟨0, 0, by rw [hd0]; rfl, rfl, ⟨rfl, by omega⟩, B2', C2⟩
 case round =>
  clear B2' C2
  obtain ⟨L, i, rfl, rfl, HA, B, C⟩ := hrel
  cases gk with
  | zero =>
   have t1 : decide (L < (m : Int)) = false := decide_eq_false (by have := HA.out; omega)
   have em : i = m := by have := HA.out; omega
   have B4 := zaa.mk (show Blk wr g .i64 3 (tabn m (fun c => (hd n s upB c : Int))) from by
    have := B.out
    rw [zbd (g := fun c => (hd n s upB c : Int)) (fun j hj => if_pos (by omega))] at this
    exact this)
   clear em
   go_wp2
   go_ret
   exact ⟨g, rfl, G2.out, B4.out, C.out⟩
  | succ q =>
   have t1 : decide (L < (m : Int)) = true := decide_eq_true (by have := HA.out; omega)
   have p1 : (0 ≤ L) = True := eq_true (by have := HA.out; omega)
   have p2 : (L < (m : Int)) = True := eq_true (by have := HA.out; omega)
   have eL : i = L.toNat := by have := HA.out; omega
   have him : i < m := by have := HA.out; omega
   have hcz := (H.out.below C.out).cz him
   have hff := B.out.free i
   have hcc := B.out.cell i (by rw [za2]; exact him)
   rw [eL] at hcz hff hcc
   have EW := zaa.mk (show wrap64 ((hd n s upB i : Int) + (sz n s i : Int)) = (hd n s upB (i + 1) : Int) from by
    have h1 := hd_le n s (i + 1)
    have h2 := H.out.n1
    rw [hd_succ] at h1 ⊢
    rw [w64 (by omega) (by omega)]; omega)
   rw [eL] at EW
   have HI := zaa.mk (And.intro eL him)
   clear eL him
   rw [HI.out.1]
   go_wp2
   go_roundg q
   case measure => omega
   case rel =>
    refine ⟨wrap64 (L + 1), i + 1, ?_, rfl, ⟨?_, by have := HA.out; omega⟩, ⟨?_⟩, ⟨zat C.out G2.out⟩⟩
    ·rw [← HI.out.1] at EW ⊢
     rw [EW.out]
    ·have := HA.out
     have := H.out.m1
     rw [w64 (by omega) (by omega)]; omega
    ·have := B.out.put i (hd n s upB i : Int)
     rw [tabn_set] at this
     rw [← HI.out.1]
     refine (congrArg (Blk _ g .i64 3) (zbd (fun j hj => ?_))).mp this
     by_cases e : j = i
     ·rw [if_pos e, if_pos (by omega), e]
     ·rw [if_neg e]
      by_cases h2 : j < i
      ·rw [if_pos h2, if_pos (by omega)]
      ·rw [if_neg h2, if_neg (by omega)]
theorem zb7 {W : World} {g n : Nat} {f f' : Nat → Int} {i : Nat} {v : Int} (h : Blk W g .i64 3 (tabn n f)) (hf : ∀ j, j < n → (if j = i then v else f j) = f' j) : Blk (W.setCell ⟨g, i, none⟩ (.int .i64 v)) g .i64 3 (tabn n f') := by
 have := h.put i v
 rw [tabn_set] at this
 exact (congrArg (Blk _ g .i64 3) (zbd hf)).mp this
theorem tails_ok (h : Ind w gx A c0 gl gz n m s ls) :
  Calls Tryd.prog 84 #[.pointer (some ⟨gx, 0, none⟩)] w fun e w' => ∃ g : Nat, e = .returned (.slice (some ⟨g, 0, none⟩) m m) ∧ w.heap.size ≤ g ∧ Blk w' g .i64 3 (tabn m (fun c => (tl n s c : Int))) ∧ Below w.heap.size w w' := by
 have H := zaa.mk h
 clear h
 go_enter Tryd.func84, Tryd.ntmps84
 go_wp2_with (first
  | (go_at_call 85; refine (heads_ok gx A c0 gl gz n m s ls _ H.out).mono ?_; rintro e w2 ⟨g, rfl, hG, hB, hC⟩; have G2 := zaa.mk hG; have C2 := zaa.mk hC; have B2 := zaa.mk (show Blk w2 g .i64 3 (tabn m (fun c => if c < 0 then (tl n s c : Int) else (hd n s upB c : Int))) from hB); have M2 := zaa.mk (H.out.below hC); have hc2 := M2.out.k2; clear hG hB hC))
 clear hc2 M2
 go_loopg [13] m (fun q v13 w' => ∃ (L : Int) (i : Nat), v13 = .int .i64 L ∧ zaa (L = (i : Int) ∧ i + q = m) ∧ zaa (Blk w' g .i64 3 (tabn m (fun c => if c < i then (tl n s c : Int) else (hd n s upB c : Int)))) ∧ zaa (Below w.heap.size w w'))
 case atStart => exact ⟨0, 0, rfl, ⟨rfl, by omega⟩, B2, C2⟩
 case round =>
  clear B2 C2
  obtain ⟨L, i, rfl, HA, B, C⟩ := hrel
  cases gk with
  | zero =>
   have t1 : decide (L < (m : Int)) = false := decide_eq_false (by have := HA.out; omega)
   have em : i = m := by have := HA.out; omega
   have B4 := zaa.mk (show Blk wr g .i64 3 (tabn m (fun c => (tl n s c : Int))) from by
    have := B.out
    rw [zbd (g := fun c => (tl n s c : Int)) (fun j hj => if_pos (by omega))] at this
    exact this)
   clear em
   go_wp2
   go_ret
   exact ⟨g, rfl, G2.out, B4.out, C.out⟩
  | succ q =>
   have t1 : decide (L < (m : Int)) = true := decide_eq_true (by have := HA.out; omega)
   have p1 : (0 ≤ L) = True := eq_true (by have := HA.out; omega)
   have p2 : (L < (m : Int)) = True := eq_true (by have := HA.out; omega)
   have eL : i = L.toNat := by have := HA.out; omega
   have him : i < m := by have := HA.out; omega
   have hcz := (H.out.below C.out).cz him
   have hff := B.out.free i
   have hcc := B.out.cell i (by rw [za2]; exact him)
   rw [zbr him, if_neg (Nat.lt_irrefl i)] at hcc
   have EW := zaa.mk (show wrap64 ((hd n s upB i : Int) + (sz n s i : Int)) = (tl n s i : Int) from by
    have h1 := tl_le n s i
    have h2 := H.out.n1
    unfold tl at h1 ⊢
    rw [w64 (by omega) (by omega)]; omega)
   rw [eL] at hcz hff hcc EW
   have HI := zaa.mk (And.intro eL him)
   clear eL him
   go_wp2
   go_roundg q
   case measure => omega
   case rel =>
    refine ⟨wrap64 (L + 1), i + 1, rfl, ⟨?_, by have := HA.out; omega⟩, ⟨?_⟩, ⟨zat C.out G2.out⟩⟩
    ·have := HA.out
     have := H.out.m1
     rw [w64 (by omega) (by omega)]; omega
    ·rw [EW.out, ← HI.out.1]
     refine zb7 B.out (fun j hj => ?_)
     by_cases e : j = i
     ·rw [if_pos e, if_pos (by omega), e]
     ·rw [if_neg e]
      by_cases h2 : j < i
      ·rw [if_pos h2, if_pos (by omega)]
      ·rw [if_neg h2, if_neg (by omega)]
end
end Go.Proofs.YtdifgiceallpiaaDoor.Hd
