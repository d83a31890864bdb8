/- suffix: induce, walked by hand. -/
import Derived.Test.YtfmgoealbaihjaaHSa2
set_option linter.unusedVariables false
set_option linter.unusedSimpArgs false
set_option linter.unusedSectionVars false
namespace Go.Proofs.Ytfmgoealbaihjaa.Hd
open Go Go.RowKit Go.Proofs.YtfmgoealbaihjaaW.PrintWords Go.Proofs.YtfmgoealbaihjaaW.PrintLast Go.Proofs.YtfmgoealbaihjaaW.PrintMore Go.Proofs.Ytfmgoealbaihjaa.Hw Go.Proofs.Ytfmgoealbaihjaa.Com Go.Proofs.Ytfmgoealbaihjaa.Cn Go.Proofs.Ytfmgoealbaihjaa.P Go.Proofs.Ytfmgoealbaihjaa.Sais
attribute [local go_sem] max2_int min2_int max_two min_two max_three min_three max_four min_four
/-- Two rows that were made here. -/
structure I2 (w : World) (g ga n m : Nat) (fo fa : Nat → Int) (W : World) : Prop where
 o : Blk W g .i64 3 (tabn n fo)
 a : Blk W ga .i64 3 (tabn m fa)
 ne : g ≠ ga
 lo : w.heap.size ≤ g
 la : w.heap.size ≤ ga
 bl : Below w.heap.size w W
section
variable {w W : World} {g ga n m : Nat} {fo fo' fa fa' : Nat → Int}
theorem I2.drew (h : I2 w g ga n m fo fa W) : I2 w g ga n m fo fa W.drew := ⟨h.o, h.a, h.ne, h.lo, h.la, below_drew h.bl⟩
theorem I2.drewN (h : I2 w g ga n m fo fa W) (k : Nat) : I2 w g ga n m fo fa (W.drewN k) := ⟨h.o, h.a, h.ne, h.lo, h.la, pw_below_drewN h.bl k⟩
theorem I2.co (h : I2 w g ga n m fo fa W) {i : Nat} (hi : i < n) : W.cell? ⟨g, i, none⟩ = some (.int .i64 (fo i)) := by
 have := h.o.cell i (by rw [tabn_length]; exact hi)
 rw [tabn_getD hi] at this
 exact this
theorem I2.ca (h : I2 w g ga n m fo fa W) {i : Nat} (hi : i < m) : W.cell? ⟨ga, i, none⟩ = some (.int .i64 (fa i)) := by
 have := h.a.cell i (by rw [tabn_length]; exact hi)
 rw [tabn_getD hi] at this
 exact this
theorem I2.seto (h : I2 w g ga n m fo fa W) (i : Nat) (v : Int) (hf : ∀ j, j < n → (if j = i then v else fo j) = fo' j) : I2 w g ga n m fo' fa (W.setCell ⟨g, i, none⟩ (.int .i64 v)) :=
 ⟨blk_step h.o hf, h.a.far h.ne.symm _, h.ne, h.lo, h.la, below_set h.bl h.lo⟩
theorem I2.seta (h : I2 w g ga n m fo fa W) (i : Nat) (v : Int) (hf : ∀ j, j < m → (if j = i then v else fa j) = fa' j) : I2 w g ga n m fo fa' (W.setCell ⟨ga, i, none⟩ (.int .i64 v)) :=
 ⟨h.o.far h.ne _, blk_step h.a hf, h.ne, h.lo, h.la, below_set h.bl h.la⟩
theorem I2.congr (h : I2 w g ga n m fo fa W) (hf : ∀ j, j < n → fo j = fo' j) (ha : ∀ j, j < m → fa j = fa' j) : I2 w g ga n m fo' fa' W :=
 ⟨(congrArg (Blk _ g .i64 3) (tabn_congr hf)).mp h.o, (congrArg (Blk _ ga .i64 3) (tabn_congr ha)).mp h.a, h.ne, h.lo, h.la, h.bl⟩
/-- Another row, new. -/
theorem I2.next {W1 : World} {gb : Nat} (h : I2 w g ga n m fo fa W) (hB : Below W.heap.size W W1) (hb : Blk W1 gb .i64 3 (tabn m fa')) (hl : W.heap.size ≤ gb) : I2 w g gb n m fo fa' W1 :=
 ⟨h.o.below hB, hb, by have := h.o.lt; omega, h.lo, Nat.le_trans h.bl.size hl, below_step h.bl hB⟩
end
def iN (T : List Nat) : List Int := T.map (fun x : Nat => (x : Int))
theorem iN_len (T : List Nat) : (iN T).length = T.length := by simp [iN]
theorem iN_getD (T : List Nat) (i : Nat) : (iN T).getD i 0 = ((T.getD i 0 : Nat) : Int) := by
 unfold iN
 rw [List.getD_eq_getElem?_getD, List.getD_eq_getElem?_getD, List.getElem?_map]
 cases T[i]? <;> rfl
section
variable (gx : Nat) (A : Option Addr) (c0 gl gz n m : Nat) (s : Nat → Nat) (ls : Nat → Bool) (w : World)
set_option maxHeartbeats 16000000 in
set_option maxRecDepth 100000 in
theorem induce_ok (AT : Option Addr) (ct : Nat) (T : List Nat) (h : Ind w gx A c0 gl gz n m s ls) (hx : Txt n s ls) (hsm : ∀ i, i < n → s i < m) (hTC : Kd.C (Kd.int .i64) w AT T.length (iN T)) (hT : Turns n ls T) :
  Calls Try.prog 28 #[.pointer (some ⟨gx, 0, none⟩), .slice AT T.length ct] w fun e w' => ∃ g : Nat, e = .returned (.slice (some ⟨g, 0, none⟩) n n) ∧ w.heap.size ≤ g ∧ Blk w' g .i64 3 (tabn n (AS n s ls T)) ∧ Below w.heap.size w w' := by
 have hlen : T.length ≤ n := by
  have := List.Nodup.length_le_of_subset hT.nd (l₂ := List.range n) (fun x hx => List.mem_range.2 (hT.lt x hx))
  rw [List.length_range] at this; exact this
 have hpos : 0 < T.length := List.length_pos_of_mem (Turns.last hx hT)
 obtain ⟨adT, hadT, hT0⟩ := Kd.at_int hTC 0 (by omega) (by omega)
 subst hadT
 have HTC := Aside0.mk (show ∀ i, i < T.length → w.cell? (adT.add i) = some (.int .i64 ((T.getD i 0 : Nat) : Int)) from fun i hi => by
  obtain ⟨ad2, h1, h2⟩ := Kd.at_int hTC (i : Int) (by omega) (by omega)
  cases h1
  rw [Int.toNat_natCast, rd_nat, iN_getD] at h2
  exact h2)
 obtain ⟨ad, hA, _⟩ := h.cs (show 0 < n by have := hx.n2; omega)
 subst hA
 have HC := Aside0.mk (show ∀ i, i < n → w.cell? (ad.add i) = some (.int .i64 (s i : Int)) from fun i hi => by
  obtain ⟨ad2, h1, h2⟩ := h.cs hi
  cases h1
  exact h2)
 have H := Aside0.mk h
 have HX := Aside0.mk hx
 have HT := Aside0.mk hT
 have HM := Aside0.mk hsm
 have HN := Aside0.mk (And.intro hlen (And.intro hpos (And.intro h.n1 h.m1)))
 have k0 := h.k0
 clear h hx hT hsm hTC hlen hpos hT0
 go_enter Try.func28, Try.ntmps28
 go_wp2_with (first
  | ((with_reducible refine gate_dst (N := 21) rfl ?_); refine make_blk rfl rfl n rfl rfl Try.underlying22 .i64 info3 (by decide) (by have := HN.out; omega) ?_; intro g w2 G2 B2 C2))
 have B2' := Aside0.mk (show Blk w2 g .i64 3 (tabn n (fun j => if j < 0 then (-1 : Int) else 0)) from by have := B2.out; rw [tabn_zero] at this; exact this)
 clear B2 k0
 go_loopg [24] n (fun q v24 w' => ∃ (L : Int) (i : Nat), v24 = .int .i64 L ∧ Aside0 (L = (i : Int) ∧ i + q = n) ∧ Aside0 (Blk w' g .i64 3 (tabn n (fun j => if j < i then (-1 : Int) else 0))) ∧ Aside0 (Below w.heap.size w w'))
 case atStart => exact ⟨0, 0, rfl, ⟨rfl, by omega⟩, B2', C2⟩
 case round =>
  clear B2' C2
  obtain ⟨L, i, rfl, HL, B, C⟩ := hrel
  cases gk with
  | succ q =>
   have t1 : decide (L < (n : Int)) = true := decide_eq_true (by have := HL.out; omega)
   obtain rfl : L = (i : Int) := HL.out.1
   have hin : i < n := by have := HL.out; omega
   have p2 : ((i : Int) < (n : Int)) = True := eq_true (by omega)
   have p3 : (i < n) = True := eq_true hin
   have hff := B.out.free i
   have hcc := B.out.cell i (by rw [tabn_length]; exact hin)
   clear hin
   go_wp2
   go_roundg q
   case measure => omega
   case rel =>
    refine ⟨wrap64 ((i : Int) + 1), i + 1, rfl, ⟨?_, by have := HL.out; omega⟩, ⟨?_⟩, ⟨below_set C.out G2.out⟩⟩
    ·have := HL.out
     have := HN.out
     rw [w64 (by omega) (by omega)]; omega
    ·refine blk_step B.out (fun j hj => ?_)
     by_cases e : j = i
     ·rw [if_pos e, if_pos (by omega)]
     ·rw [if_neg e]
      by_cases h2 : j < i
      ·rw [if_pos h2, if_pos (by omega)]
      ·rw [if_neg h2, if_neg (by omega)]
  | zero =>
   have t1 : decide (L < (n : Int)) = false := decide_eq_false (by have := HL.out; omega)
   have B4 := Aside0.mk (show Blk wr g .i64 3 (tabn n (place s (T.drop T.length) (fun _ => -1, tl n s)).1) from by
    have := B.out
    rw [tabn_congr (g := (place s (T.drop T.length) (fun _ => -1, tl n s)).1) (fun j hj => by rw [if_pos (by have := HL.out; omega), List.drop_length]; rfl)] at this
    exact this)
   have C4 := Aside0.mk (H.out.below C.out)
   clear B HL
   go_wp2_with (first
    | (go_at_call 30; refine (tails_ok gx (some ad) c0 gl gz n m s ls _ C4.out).mono ?_; rintro e w3 ⟨ga, rfl, hG, hB, hC⟩; have I0 := Aside0.mk (show I2 w g ga n m (place s (T.drop T.length) (fun _ => -1, tl n s)).1 (fun c => (((place s (T.drop T.length) (fun _ => -1, tl n s)).2 c : Nat) : Int)) w3 from ⟨B4.out.below hC, by rw [List.drop_length]; exact hB, by have := B4.out.lt; omega, G2.out, Nat.le_trans C.out.size hG, below_step C.out hC⟩); clear hG hB hC))
   clear B4 C4 C t1
   have e1 : wrap64 ((T.length : Int) - 1) = (T.length : Int) - 1 := w64 (by have := HN.out; omega) (by have := HN.out; omega)
   go_loopg [8] T.length (fun q v8 w' => ∃ L : Int, v8 = .int .i64 L ∧ Aside0 (L = (q : Int) - 1 ∧ q ≤ T.length) ∧ Aside0 (I2 w g ga n m (place s (T.drop q) (fun _ => -1, tl n s)).1 (fun c => (((place s (T.drop q) (fun _ => -1, tl n s)).2 c : Nat) : Int)) w'))
   case atStart => exact ⟨(T.length : Int) - 1, by simp only [e1], ⟨rfl, Nat.le_refl _⟩, I0⟩
   case round =>
    clear I0 e1
    obtain ⟨L, rfl, HL, I⟩ := hrel
    cases gk with
    | succ q =>
     obtain rfl : L = (q : Int) := by have := HL.out; omega
     have hq : q < T.length := by have := HL.out; omega
     have t0 : decide (0 ≤ (q : Int)) = true := decide_eq_true (by omega)
     have e2 : wrap64 ((q : Int) - 1) = (q : Int) - 1 := by have := HN.out; exact w64 (by omega) (by omega)
     have p1 : ((q : Int) < (T.length : Int)) = True := eq_true (by omega)
     have p2 : (q < T.length) = True := eq_true hq
     have k1 := (H.out.below I.out.bl).k0
     have hc := HTC.out q hq
     obtain ⟨x, hx⟩ : ∃ x, T.getD q 0 = x := ⟨_, rfl⟩
     rw [hx] at hc
     have k2 := (I.out.bl.cell (World.block_lt_of_cell? w _ hc)).trans hc
     have hTd : T.drop q = x :: T.drop (q + 1) := by
      rw [List.drop_eq_getElem_cons hq, ← hx, List.getD_eq_getElem?_getD, List.getElem?_eq_getElem hq]; rfl
     have hxT : x ∈ T := by rw [← hx, List.getD_eq_getElem?_getD, List.getElem?_eq_getElem hq]; exact List.getElem_mem hq
     have hxn := HT.out.lt x hxT
     have hd := HC.out x hxn
     have k3 := (I.out.bl.cell (World.block_lt_of_cell? w _ hd)).trans hd
     have hcm := HM.out x hxn
     have hnd : (x :: T.drop (q + 1)).Nodup := by rw [← hTd]; exact HT.out.nd.sublist (List.drop_sublist _ _)
     have hlt : ∀ y ∈ x :: T.drop (q + 1), y < n := by rw [← hTd]; exact fun y hy => HT.out.lt y (List.mem_of_mem_drop hy)
     have hroom := place_room (n := n) (s := s) hnd hlt
     obtain ⟨U, hU⟩ : ∃ U, T.drop (q + 1) = U := ⟨_, rfl⟩
     rw [hU] at hTd hroom I
     obtain ⟨c, hcc⟩ : ∃ c, s x = c := ⟨_, rfl⟩
     rw [hcc] at k3 hcm hroom
     obtain ⟨ac, hac⟩ : ∃ ac, (place s U (fun _ => -1, tl n s)).2 c - 1 = ac := ⟨_, rfl⟩
     have p3 : ((x : Int) < (n : Int)) = True := eq_true (by omega)
     have p4 : (x < n) = True := eq_true hxn
     have p5 : ((c : Int) < (m : Int)) = True := eq_true (by omega)
     have p6 : (c < m) = True := eq_true hcm
     have HI := Aside0.mk (And.intro hx (And.intro hTd (And.intro hcc (And.intro hac hroom))))
     clear hc hd hx hTd hxT hxn hnd hlt hU hcc hac
     go_wp2
     go_quiet (fail)
     obtain ⟨w4, hw4⟩ : ∃ w4, wr.drewN nq = w4 := ⟨_, rfl⟩
     have I4 := Aside0.mk (I.out.drewN nq)
     rw [hw4] at I4
     rw [hw4]
     clear k1 k2 k3 hw4 I
     have k5 := I4.out.ca hcm
     have kf := I4.out.a.free c
     have HCM := Aside0.mk hcm
     clear hcm
     have EW := Aside0.mk (show wrap64 ((((place s U (fun _ => -1, tl n s)).2 c : Nat) : Int) - 1) = (ac : Int) from by
      have := HI.out
      have := HN.out
      rw [w64 (by omega) (by omega)]; omega)
     go_wp2
     have I3 := Aside0.mk (I4.out.seta (fa' := fun d => if d = c then (ac : Int) else (((place s U (fun _ => -1, tl n s)).2 d : Nat) : Int)) c (ac : Int) (fun j _ => rfl))
     rw [EW.out]
     obtain ⟨w5, hw5⟩ : ∃ w5, w4.setCell ⟨ga, c, none⟩ (.int .i64 (ac : Int)) = w5 := ⟨_, rfl⟩
     rw [hw5] at I3
     rw [hw5]
     clear hw5 k5 kf EW I4
     have HAC := Aside0.mk (show ac < n from by have := HI.out; omega)
     have k3 : w5.cell? ⟨ga, c, none⟩ = some (.int .i64 (ac : Int)) := by have := I3.out.ca HCM.out; rw [if_pos rfl] at this; exact this
     have hc := HTC.out q (of_eq_true p2)
     have k4 : w5.cell? (adT.add q) = some (.int .i64 (x : Int)) := by
      have h1 := (I3.out.bl.cell (World.block_lt_of_cell? w _ hc)).trans hc
      rw [HI.out.1] at h1
      exact h1
     have p7 : ((ac : Int) < (n : Int)) = True := eq_true (by have := HAC.out; omega)
     have p8 : (ac < n) = True := eq_true HAC.out
     clear hc
     refine start_ (n := 11) (S := fun w' => w'.cell? ⟨ga, c, none⟩ = some (.int .i64 (ac : Int)) ∧ w'.cell? (adT.add q) = some (.int .i64 (x : Int))) (ds := [10]) #[false, false, false, false, false, false, false, false, false, false, false] (by kernel_rfl) rfl rfl ⟨k3, k4⟩ (fun hHeld => ?_)
     refine pure_ (i := 0) (N := some 56) (v := ?_) (a' := ?_) #[true, false, false, false, false, false, false, false, false, false, false] rfl rfl (by kernel_rfl) (fun _ _ _ h => h) (Or.inl ⟨by rfl, ?_⟩) ?_ ?_
     rotate_left
     ·intro w'
      go_simp
      with_reducible rfl
     rotate_left
     ·simp only [Act.put, List.setIfInBounds_toArray, List.set_cons_zero, List.set_cons_succ, i64_w, i32_w]
      rfl
     refine pure_ (i := 1) (N := some 57) (v := ?_) (a' := ?_) #[true, true, false, false, false, false, false, false, false, false, false] rfl rfl (by kernel_rfl) (fun _ _ _ h => h) (Or.inl ⟨by rfl, ?_⟩) ?_ ?_
     rotate_left
     ·intro w'
      go_simp
      with_reducible rfl
     rotate_left
     ·simp only [Act.put, List.setIfInBounds_toArray, List.set_cons_zero, List.set_cons_succ, i64_w, i32_w]
      rfl
     refine pure_ (i := 2) (N := some 58) (v := ?_) (a' := ?_) #[true, true, true, false, false, false, false, false, false, false, false] rfl rfl (by kernel_rfl) (fun _ _ _ h => h) (Or.inl ⟨by rfl, ?_⟩) ?_ ?_
     rotate_left
     ·intro w'
      go_simp
      with_reducible rfl
     rotate_left
     ·simp only [Act.put, List.setIfInBounds_toArray, List.set_cons_zero, List.set_cons_succ, i64_w, i32_w]
      rfl
     refine pure_ (i := 3) (N := some 59) (v := ?_) (a' := ?_) #[true, true, true, true, false, false, false, false, false, false, false] rfl rfl (by kernel_rfl) (fun _ _ _ h => h) (Or.inl ⟨by rfl, ?_⟩) ?_ ?_
     rotate_left
     ·intro w'
      go_simp
      with_reducible rfl
     rotate_left
     ·simp only [Act.put, List.setIfInBounds_toArray, List.set_cons_zero, List.set_cons_succ, i64_w, i32_w]
      rfl
     refine pure_ (i := 5) (N := some 61) (v := ?_) (a' := ?_) #[true, true, true, true, false, true, false, false, false, false, false] rfl rfl (by kernel_rfl) (fun _ _ _ h => h) (Or.inl ⟨by rfl, ?_⟩) ?_ ?_
     rotate_left
     ·intro w'
      go_simp
      with_reducible rfl
     rotate_left
     ·simp only [Act.put, List.setIfInBounds_toArray, List.set_cons_zero, List.set_cons_succ, i64_w, i32_w]
      rfl
     refine pure_ (i := 6) (N := some 62) (v := ?_) (a' := ?_) #[true, true, true, true, false, true, true, false, false, false, false] rfl rfl (by kernel_rfl) (fun _ _ _ h => h) (Or.inl ⟨by rfl, ?_⟩) ?_ ?_
     rotate_left
     ·intro w'
      go_simp
      with_reducible rfl
     rotate_left
     ·simp only [Act.put, List.setIfInBounds_toArray, List.set_cons_zero, List.set_cons_succ, i64_w, i32_w]
      rfl
     refine pure_ (i := 7) (N := some 63) (v := ?_) (a' := ?_) #[true, true, true, true, false, true, true, true, false, false, false] rfl rfl (by kernel_rfl) (fun _ _ _ h => h) (Or.inl ⟨by rfl, ?_⟩) ?_ ?_
     rotate_left
     ·intro w'
      go_simp
      with_reducible rfl
     rotate_left
     ·simp only [Act.put, List.setIfInBounds_toArray, List.set_cons_zero, List.set_cons_succ, i64_w, i32_w]
      rfl
     refine take_ (i := 4) (N := some 60) (v := ?_) (a' := ?_) #[true, true, true, true, true, true, true, true, false, false, false] rfl rfl (by kernel_rfl) (fun _ _ _ h => h) (Or.inl ⟨by rfl, ?_⟩) hHeld ?_ ?_
     rotate_left
     ·rintro w' ⟨s0, s1⟩
      go_simp
      with_reducible rfl
     rotate_left
     ·simp only [Act.put, List.setIfInBounds_toArray, List.set_cons_zero, List.set_cons_succ, i64_w, i32_w]
      rfl
     refine take_ (i := 8) (N := some 64) (v := ?_) (a' := ?_) #[true, true, true, true, true, true, true, true, true, false, false] rfl rfl (by kernel_rfl) (fun _ _ _ h => h) (Or.inl ⟨by rfl, ?_⟩) hHeld ?_ ?_
     rotate_left
     ·rintro w' ⟨s0, s1⟩
      go_simp
      with_reducible rfl
     rotate_left
     ·simp only [Act.put, List.setIfInBounds_toArray, List.set_cons_zero, List.set_cons_succ, i64_w, i32_w]
      rfl
     refine pure_ (i := 9) (N := some 65) (v := ?_) (a' := ?_) #[true, true, true, true, true, true, true, true, true, true, false] rfl rfl (by kernel_rfl) (fun _ _ _ h => h) (Or.inl ⟨by rfl, ?_⟩) ?_ ?_
     rotate_left
     ·intro w'
      go_simp
      with_reducible rfl
     rotate_left
     ·simp only [Act.put, List.setIfInBounds_toArray, List.set_cons_zero, List.set_cons_succ, i64_w, i32_w]
      rfl
     refine last_ (i := 10) (N := none) #[true, true, true, true, true, true, true, true, true, true, true] rfl rfl (by kernel_rfl) (by decide) (fun K hK => ?_)
     have hfz := I3.out.drew.o.free ac
     have hcz := I3.out.drew.co HAC.out
     refine skip_ (w1 := ?_) (by rfl) rfl ?_ ?_
     rotate_left
     ·go_simp
      rfl
     refine hK.out _ _ ?_
     clear hK K
     refine done_ (by kernel_rfl) ?_
     clear hHeld k3 k4 hfz hcz
     go_wp2
     go_roundg q
     case measure => omega
     case rel =>
      refine ⟨(q : Int) - 1, by simp only [e2], ⟨rfl, by have := HL.out; omega⟩, ⟨?_⟩⟩
      obtain ⟨h1, h2, h3, h4, h5, h6⟩ := HI.out
      rw [h2]
      refine (I3.out.drew.seto (fo' := (place s (x :: U) (fun _ => -1, tl n s)).1) ac (x : Int) (fun j hj => ?_)).congr (fun _ _ => rfl) (fun d hd => ?_)
      ·show _ = upd (place s U (fun _ => -1, tl n s)).1 ((place s U (fun _ => -1, tl n s)).2 (s x) - 1) (x : Int) j
       rw [h3, h4]
       rfl
      ·show _ = ((upd (place s U (fun _ => -1, tl n s)).2 (s x) ((place s U (fun _ => -1, tl n s)).2 (s x) - 1) d : Nat) : Int)
       rw [h3, h4]
       unfold upd
       split <;> rfl
    | zero =>
     have t0 : decide (0 ≤ L) = false := decide_eq_false (by have := HL.out; omega)
     have IH := Aside0.mk (H.out.below I.out.bl)
     clear HL
     go_wp2_with (first
      | (go_at_call 31; refine (heads_ok gx (some ad) c0 gl gz n m s ls _ IH.out).mono ?_; rintro e w3 ⟨gh, rfl, hG, hB, hC⟩; have J0 := Aside0.mk (show I2 w g gh n m (pL n s ls T 0) (fun c => ((aL n s ls T 0 c : Nat) : Int)) w3 from I.out.next hC hB hG); clear hG hB hC))
     clear IH I t0
     go_loopg [70] n (fun q v70 w' => ∃ (L : Int) (p : Nat), v70 = .int .i64 L ∧ Aside0 (L = (p : Int) ∧ p + q = n) ∧ Aside0 (I2 w g gh n m (pL n s ls T p) (fun c => ((aL n s ls T p c : Nat) : Int)) w'))
     case atStart => exact ⟨0, 0, rfl, ⟨rfl, by omega⟩, J0⟩
     case round =>
      clear J0
      obtain ⟨L, p, rfl, HL, I⟩ := hrel
      cases gk with
      | succ q =>
       obtain rfl : L = (p : Int) := HL.out.1
       have hp : p < n := by have := HL.out; omega
       have t1 : decide ((p : Int) < (n : Int)) = true := decide_eq_true (by omega)
       have t2 : decide (p < n) = true := decide_eq_true hp
       have p2 : ((p : Int) < (n : Int)) = True := eq_true (by omega)
       have p3 : (p < n) = True := eq_true hp
       have kc := I.out.co hp
       have k1 := (H.out.below I.out.bl).k1
       have k0 := (H.out.below I.out.bl).k0
       have HP := Aside0.mk hp
       have hfin : ∀ w', I2 w g gh n m (pL n s ls T (p + 1)) (fun c => ((aL n s ls T (p + 1) c : Nat) : Int)) w' → ∃ (L : Int) (p' : Nat), Value.int .i64 (wrap64 ((p : Int) + 1)) = .int .i64 L ∧ Aside0 (L = (p' : Int) ∧ p' + q = n) ∧ Aside0 (I2 w g gh n m (pL n s ls T p') (fun c => ((aL n s ls T p' c : Nat) : Int)) w') := by
        intro w' hI
        refine ⟨_, p + 1, rfl, ⟨?_, by have := HL.out; omega⟩, ⟨hI⟩⟩
        have := HL.out
        have := HN.out
        rw [w64 (by omega) (by omega)]; omega
       have HFIN := Aside0.mk hfin
       clear hfin
       by_cases hv : pL n s ls T p p ≤ 0
       ·have hs := pL_skip HX.out HT.out hp (.inl hv)
        obtain ⟨v, hve⟩ : ∃ v, pL n s ls T p p = v := ⟨_, rfl⟩
        have hr := pL_range HX.out HT.out (Nat.le_of_lt hp) p
        rw [hve] at hv kc hr
        have e3 : wrap64 (v - 1) = v - 1 := w64 (by rcases hr with h | ⟨x, _, h⟩ <;> omega) (by omega)
        have t3 : decide (0 ≤ v - 1) = false := decide_eq_false (by omega)
        have t4 : decide (1 ≤ v) = false := decide_eq_false (by omega)
        have HS := Aside0.mk hs
        clear hs hr hv hp hve
        go_wp2
        go_roundg q
        case measure => omega
        case rel => exact HFIN.out _ (by rw [HS.out.1, HS.out.2]; exact I.out)
       ·obtain ⟨k, hk⟩ : ∃ k : Nat, pL n s ls T p p = (k : Int) + 1 := ⟨(pL n s ls T p p - 1).toNat, by omega⟩
        obtain ⟨x, hxk⟩ : ∃ x, x = k + 1 := ⟨_, rfl⟩
        have hkx : pL n s ls T p p = (x : Int) := by rw [hk, hxk]; rfl
        have hkn : k < n := by
         rcases pL_range HX.out HT.out (Nat.le_of_lt hp) p with e | ⟨y, hy, e⟩
         ·omega
         ·omega
        rw [hkx] at kc
        have e3 : wrap64 ((x : Int) - 1) = (k : Int) := by have := HN.out; rw [w64 (by omega) (by omega)]; omega
        have t3 : decide (0 ≤ (k : Int)) = true := decide_eq_true (by omega)
        have p4 : ((k : Int) < (n : Int)) = True := eq_true (by omega)
        have p5 : (k < n) = True := eq_true hkn
        have kl := (H.out.below I.out.bl).cl hkn
        cases hl : ls k with
        | true =>
         have hs := pL_skip HX.out HT.out hp (.inr ⟨k, hk, hl⟩)
         rw [hl] at kl
         have HS := Aside0.mk hs
         clear hs hv hp hk hxk hkx hkn hl
         go_wp2
         go_roundg q
         case measure => omega
         case rel => exact HFIN.out _ (by rw [HS.out.1, HS.out.2]; exact I.out)
        | false =>
         have hs := pL_yes HX.out HT.out hp hk hl
         rw [hl] at kl
         have hd := HC.out k hkn
         have k3 := (I.out.bl.cell (World.block_lt_of_cell? w _ hd)).trans hd
         have hcm := HM.out k hkn
         obtain ⟨c, hcc⟩ : ∃ c, s k = c := ⟨_, rfl⟩
         rw [hcc] at k3 hcm hs
         obtain ⟨ac, hac⟩ : ∃ ac, aL n s ls T p c = ac := ⟨_, rfl⟩
         have k4 := I.out.ca hcm
         rw [hac] at k4 hs
         have hacn := hs.2.1
         have p6 : ((c : Int) < (m : Int)) = True := eq_true (by omega)
         have p7 : (c < m) = True := eq_true hcm
         have p8 : ((ac : Int) < (n : Int)) = True := eq_true (by omega)
         have p9 : (ac < n) = True := eq_true hacn
         have kf := I.out.o.free ac
         have kg := I.out.co hacn
         have I5 := Aside0.mk (I.out.seto (fo' := pL n s ls T (p + 1)) ac (k : Int) (fun j _ => by rw [hs.2.2.1]; rfl))
         have k5 := I5.out.ca hcm
         rw [hac] at k5
         have kf5 := I5.out.a.free c
         have EW := Aside0.mk (show wrap64 ((ac : Int) + 1) = ((ac + 1 : Nat) : Int) from by have := HN.out; rw [w64 (by omega) (by omega)]; omega)
         have HS := Aside0.mk (And.intro hs (And.intro hcc hac))
         clear hs hv hp hk hxk hkx hkn hl hd hcm hcc hac hacn
         go_wp2
         go_roundg q
         case measure => omega
         case rel =>
          rw [EW.out]
          refine HFIN.out _ (I5.out.seta c ((ac + 1 : Nat) : Int) (fun j _ => ?_))
          obtain ⟨⟨_, _, _, h4⟩, h5, h6⟩ := HS.out
          rw [h4 j]
          by_cases e : j = c
          ·rw [if_pos e, if_pos e, e, h6]
          ·rw [if_neg e, if_neg e]
      | zero =>
       have t1 : decide (L < (n : Int)) = false := decide_eq_false (by have := HL.out; omega)
       have IH := Aside0.mk (H.out.below I.out.bl)
       have ep : p = n := by have := HL.out; omega
       rw [ep] at I
       clear HL ep
       go_wp2_with (first
        | (go_at_call 30; refine (tails_ok gx (some ad) c0 gl gz n m s ls _ IH.out).mono ?_; rintro e w3 ⟨gt, rfl, hG, hB, hC⟩; have J0 := Aside0.mk (show I2 w g gt n m (pS n s ls T 0) (fun c => ((aS n s ls T 0 c : Nat) : Int)) w3 from (I.out.next hC hB hG).congr (fun j hj => (pS_zero hj).symm) (fun _ _ => rfl)); clear hG hB hC))
       clear IH I t1
       have e1 : wrap64 ((n : Int) - 1) = (n : Int) - 1 := w64 (by have := HN.out; omega) (by have := HN.out; omega)
       go_loopg [13] n (fun q v13 w' => ∃ L : Int, v13 = .int .i64 L ∧ Aside0 (L = (q : Int) - 1 ∧ q ≤ n) ∧ Aside0 (I2 w g gt n m (pS n s ls T (n - q)) (fun c => ((aS n s ls T (n - q) c : Nat) : Int)) w'))
       case atStart => exact ⟨(n : Int) - 1, by simp only [e1], ⟨rfl, Nat.le_refl _⟩, by rw [Nat.sub_self]; exact J0⟩
       case round =>
        clear J0 e1
        obtain ⟨L, rfl, HL, I⟩ := hrel
        cases gk with
        | zero =>
         have t0 : decide (0 ≤ L) = false := decide_eq_false (by have := HL.out; omega)
         have I5 := Aside0.mk (show Blk wr g .i64 3 (tabn n (AS n s ls T)) from by
          have := I.out.o
          rw [Nat.sub_zero, pS_end] at this
          exact this)
         go_wp2
         go_ret
         exact ⟨g, rfl, I.out.lo, I5.out, I.out.bl⟩
        | succ q =>
         obtain rfl : L = (q : Int) := by have := HL.out; omega
         have hq : q < n := by have := HL.out; omega
         obtain ⟨p, hp⟩ : ∃ p, n - (q + 1) = p := ⟨_, rfl⟩
         have hpq : p + q + 1 = n := by omega
         have hpn : n - q = p + 1 := by omega
         rw [hp] at I
         have t0 : decide (0 ≤ (q : Int)) = true := decide_eq_true (by omega)
         have e2 : wrap64 ((q : Int) - 1) = (q : Int) - 1 := by have := HN.out; exact w64 (by omega) (by omega)
         have p2 : ((q : Int) < (n : Int)) = True := eq_true (by omega)
         have p3 : (q < n) = True := eq_true hq
         have kc := I.out.co hq
         have k1 := (H.out.below I.out.bl).k1
         have k0 := (H.out.below I.out.bl).k0
         have hfin : ∀ w', I2 w g gt n m (pS n s ls T (p + 1)) (fun c => ((aS n s ls T (p + 1) c : Nat) : Int)) w' → ∃ L : Int, Value.int .i64 (wrap64 ((q : Int) - 1)) = .int .i64 L ∧ Aside0 (L = (q : Int) - 1 ∧ q ≤ n) ∧ Aside0 (I2 w g gt n m (pS n s ls T (n - q)) (fun c => ((aS n s ls T (n - q) c : Nat) : Int)) w') := by
          intro w' hI
          exact ⟨(q : Int) - 1, by simp only [e2], ⟨rfl, by omega⟩, ⟨by rw [hpn]; exact hI⟩⟩
         have HFIN := Aside0.mk hfin
         clear hfin hp hpn
         by_cases hv : pS n s ls T p q ≤ 0
         ·have hs := pS_skip HX.out HT.out hpq (.inl hv)
          obtain ⟨v, hve⟩ : ∃ v, pS n s ls T p q = v := ⟨_, rfl⟩
          have hr := pS_range HX.out HT.out (show p ≤ n by omega) q
          rw [hve] at hv kc hr
          have e3 : wrap64 (v - 1) = v - 1 := w64 (by rcases hr with h | ⟨x, _, h⟩ <;> omega) (by omega)
          have t3 : decide (0 ≤ v - 1) = false := decide_eq_false (by omega)
          have t4 : decide (1 ≤ v) = false := decide_eq_false (by omega)
          have HS := Aside0.mk hs
          clear hs hr hv hq hve hpq
          go_wp2
          go_roundg q
          case measure => omega
          case rel => exact HFIN.out _ (by rw [HS.out.1, HS.out.2]; exact I.out)
         ·obtain ⟨k, hk⟩ : ∃ k : Nat, pS n s ls T p q = (k : Int) + 1 := ⟨(pS n s ls T p q - 1).toNat, by omega⟩
          obtain ⟨x, hxk⟩ : ∃ x, x = k + 1 := ⟨_, rfl⟩
          have hkx : pS n s ls T p q = (x : Int) := by rw [hk, hxk]; rfl
          have hkn : k < n := by
           rcases pS_range HX.out HT.out (show p ≤ n by omega) q with e | ⟨y, hy, e⟩
           ·omega
           ·omega
          rw [hkx] at kc
          have e3 : wrap64 ((x : Int) - 1) = (k : Int) := by have := HN.out; rw [w64 (by omega) (by omega)]; omega
          have t3 : decide (0 ≤ (k : Int)) = true := decide_eq_true (by omega)
          have p4 : ((k : Int) < (n : Int)) = True := eq_true (by omega)
          have p5 : (k < n) = True := eq_true hkn
          have kl := (H.out.below I.out.bl).cl hkn
          cases hl : ls k with
          | false =>
           have hs := pS_skip HX.out HT.out hpq (.inr ⟨k, hk, hl⟩)
           rw [hl] at kl
           have HS := Aside0.mk hs
           clear hs hv hq hk hxk hkx hkn hl hpq
           go_wp2
           go_roundg q
           case measure => omega
           case rel => exact HFIN.out _ (by rw [HS.out.1, HS.out.2]; exact I.out)
          | true =>
           have hs := pS_yes HX.out HT.out hpq hk hl
           rw [hl] at kl
           have hd := HC.out k hkn
           have k3 := (I.out.bl.cell (World.block_lt_of_cell? w _ hd)).trans hd
           have hcm := HM.out k hkn
           obtain ⟨c, hcc⟩ : ∃ c, s k = c := ⟨_, rfl⟩
           rw [hcc] at k3 hcm hs
           obtain ⟨ad_, had⟩ : ∃ ad_, aS n s ls T p c = ad_ := ⟨_, rfl⟩
           have k4 := I.out.ca hcm
           rw [had] at k4 hs
           obtain ⟨ac, hac⟩ : ∃ ac, ad_ - 1 = ac := ⟨_, rfl⟩
           rw [hac] at hs
           have hacn : ac < n := by have := hs.2.1; have := hs.2.2.1; omega
           have p6 : ((c : Int) < (m : Int)) = True := eq_true (by omega)
           have p7 : (c < m) = True := eq_true hcm
           have p8 : ((ac : Int) < (n : Int)) = True := eq_true (by omega)
           have p9 : (ac < n) = True := eq_true hacn
           have e5 : wrap64 ((ad_ : Int) - 1) = (ac : Int) := by have := hs.2.1; have := hs.2.2.1; have := HN.out; rw [w64 (by omega) (by omega)]; omega
           have kf5 := I.out.a.free c
           have I5 := Aside0.mk (I.out.seta (fa' := fun c => ((aS n s ls T (p + 1) c : Nat) : Int)) c (ac : Int) (fun j _ => by
            rw [hs.2.2.2.2 j]
            by_cases e : j = c
            ·rw [if_pos e, if_pos e, e, had, hac]
            ·rw [if_neg e, if_neg e]))
           have k5 := I5.out.ca hcm
           rw [hs.2.2.2.2 c, if_pos rfl, had, hac] at k5
           have kf := I5.out.o.free ac
           have kg := I5.out.co hacn
           have HS := Aside0.mk (And.intro hs (And.intro hcc (And.intro had hac)))
           clear hs hv hq hk hxk hkx hkn hl hd hcm hcc hac had hacn hpq
           go_wp2
           go_roundg q
           case measure => omega
           case rel =>
            obtain ⟨⟨_, _, _, h3, _⟩, h5, h6, h7⟩ := HS.out
            refine HFIN.out _ (I5.out.seto (fo' := pS n s ls T (p + 1)) ac (k : Int) (fun j hj => ?_))
            rw [h3 j hj]
end
end Go.Proofs.Ytfmgoealbaihjaa.Hd
/- suffix: same, walked by hand. -/
namespace Go.Proofs.Ytfmgoealbaihjaa.Sais
section
variable {n : Nat} {s : Nat → Nat} {ls : Nat → Bool}
/-- Where two words are after so many equal letters. -/
def VW (n : Nat) (s : Nat → Nat) (ls : Nat → Bool) (j i : Nat) : List Nat := if j = 0 then W n s ls i else V n s ls i
theorem sm_diff {j a b : Nat} (h : lt_ s ls a ≠ lt_ s ls b) : VW n s ls j a ≠ VW n s ls j b := by
 intro e
 unfold VW at e
 split at e
 ·obtain ⟨t, ht⟩ := W_head (n := n) (s := s) (ls := ls) a
  obtain ⟨u, hu⟩ := W_head (n := n) (s := s) (ls := ls) b
  rw [ht, hu] at e
  injection e with e _
  exact h e
 ·obtain ⟨t, ht⟩ := V_head (n := n) (s := s) (ls := ls) a
  obtain ⟨u, hu⟩ := V_head (n := n) (s := s) (ls := ls) b
  rw [ht, hu] at e
  injection e with e _
  exact h e
theorem sm_tn {j a b : Nat} (hj : j ≠ 0) (h : lt_ s ls a = lt_ s ls b) (ha : tn ls a = true) (hb : tn ls b = true) : VW n s ls j a = VW n s ls j b := by
 unfold VW
 rw [if_neg hj, if_neg hj, V_tn ha, V_tn hb, h]
theorem sm_next (hx : Txt n s ls) {j a b : Nat} (ha : a < n) (hb : b < n) (hab : a ≠ b) (h : lt_ s ls a = lt_ s ls b) (ta : j ≠ 0 → tn ls a = false) (tb : j ≠ 0 → tn ls b = false) :
  a + 1 < n ∧ b + 1 < n ∧ (VW n s ls j a = VW n s ls j b ↔ VW n s ls (j + 1) (a + 1) = VW n s ls (j + 1) (b + 1)) := by
 have hl : ∀ x y, x < n → y < n → lt_ s ls x = lt_ s ls y → x ≠ y → x + 1 < n := by
  intro x y hx1 hy1 e hne
  rcases Nat.lt_or_ge (x + 1) n with h1 | h1
  ·exact h1
  ·have ex : x = n - 1 := by omega
   rcases Nat.lt_or_ge (y + 1) n with h2 | h2
   ·have := lt_big hx h2
    rw [← e, ex, lt_last hx] at this
    omega
   ·omega
 have h1 := hl a b ha hb h hab
 have h2 := hl b a hb ha h.symm hab.symm
 refine ⟨h1, h2, ?_⟩
 have e1 : VW n s ls j a = W n s ls a := by
  unfold VW
  by_cases hj : j = 0
  ·rw [if_pos hj]
  ·rw [if_neg hj, V_not (ta hj)]
 have e2 : VW n s ls j b = W n s ls b := by
  unfold VW
  by_cases hj : j = 0
  ·rw [if_pos hj]
  ·rw [if_neg hj, V_not (tb hj)]
 rw [e1, e2, W_step h1, W_step h2, h]
 unfold VW
 rw [if_neg (Nat.succ_ne_zero j), if_neg (Nat.succ_ne_zero j)]
 constructor
 ·intro e; injection e
 ·intro e; rw [e]
theorem tn_same {a b : Nat} (h0 : a ≠ 0) (h1 : b ≠ 0) (h : lt_ s ls a = lt_ s ls b) (hp : lt_ s ls (a - 1) = lt_ s ls (b - 1)) : tn ls a = tn ls b := by
 have e1 := (lt_eq h).2
 have e2 := (lt_eq hp).2
 unfold tn
 rw [e1, e2, decide_eq_true (show 0 < a by omega), decide_eq_true (show 0 < b by omega)]
end
end Go.Proofs.Ytfmgoealbaihjaa.Sais
namespace Go.Proofs.Ytfmgoealbaihjaa.Hd
open Go Go.RowKit Go.Proofs.YtfmgoealbaihjaaW.PrintWords Go.Proofs.YtfmgoealbaihjaaW.PrintLast Go.Proofs.YtfmgoealbaihjaaW.PrintMore Go.Proofs.Ytfmgoealbaihjaa.Hw Go.Proofs.Ytfmgoealbaihjaa.Com Go.Proofs.Ytfmgoealbaihjaa.Cn Go.Proofs.Ytfmgoealbaihjaa.P Go.Proofs.Ytfmgoealbaihjaa.Sais
attribute [local go_sem] max2_int min2_int max_two min_two max_three min_three max_four min_four
section
variable (gx : Nat) (A : Option Addr) (c0 gl gz n m : Nat) (s : Nat → Nat) (ls : Nat → Bool) (w : World)
set_option maxHeartbeats 16000000 in
set_option maxRecDepth 100000 in
theorem same_ok (i k : Nat) (h : Ind w gx A c0 gl gz n m s ls) (hx : Txt n s ls) (hi : i < n) (hk : k < n) (hik : i ≠ k) :
  Calls Try.prog 29 #[.pointer (some ⟨gx, 0, none⟩), .int .i64 (i : Int), .int .i64 (k : Int)] w fun e w' => e = .returned (.bool (decide (W n s ls i = W n s ls k))) ∧ Below w.heap.size w w' := by
 obtain ⟨ad, hA, _⟩ := h.cs hi
 subst hA
 have HC := Aside0.mk (show ∀ i, i < n → w.cell? (ad.add i) = some (.int .i64 (s i : Int)) from fun i hi => by
  obtain ⟨ad2, h1, h2⟩ := h.cs hi
  cases h1
  exact h2)
 have H := Aside0.mk h
 have HX := Aside0.mk hx
 have HI := Aside0.mk (And.intro hi (And.intro hk (And.intro hik h.n1)))
 clear h hx hi hk hik
 go_enter Try.func29, Try.ntmps29
 go_wp2
 go_loopg [7] n (fun q v7 w' => ∃ (L : Int) (j : Nat), v7 = .int .i64 L ∧ Aside0 (L = (j : Int) ∧ j + q = n ∧ i + j < n ∧ k + j < n ∧ (j ≠ 0 → lt_ s ls (i + j - 1) = lt_ s ls (k + j - 1)) ∧ (W n s ls i = W n s ls k ↔ VW n s ls j (i + j) = VW n s ls j (k + j))) ∧ Aside0 (Below w.heap.size w w'))
 case atStart => exact ⟨0, 0, rfl, ⟨rfl, by omega, by have := HI.out; omega, by have := HI.out; omega, by simp, Iff.rfl⟩, ⟨Below.refl _ _⟩⟩
 case round =>
  obtain ⟨L, j, rfl, HL, B⟩ := hrel
  cases gk with
  | zero => have := HL.out; omega
  | succ q =>
   obtain rfl : L = (j : Int) := HL.out.1
   obtain ⟨a, ha⟩ : ∃ a, i + j = a := ⟨_, rfl⟩
   obtain ⟨b, hb⟩ : ∃ b, k + j = b := ⟨_, rfl⟩
   have han : a < n := by have := HL.out; omega
   have hbn : b < n := by have := HL.out; omega
   have e1 : wrap64 ((i : Int) + (j : Int)) = (a : Int) := by have := HI.out; rw [w64 (by omega) (by omega)]; omega
   have e2 : wrap64 ((k : Int) + (j : Int)) = (b : Int) := by have := HI.out; rw [w64 (by omega) (by omega)]; omega
   have e3 : wrap64 ((j : Int) + 1) = ((j + 1 : Nat) : Int) := by have := HI.out; have := HL.out; rw [w64 (by omega) (by omega)]; omega
   have e4 : IntKind.i64.wrap ((i : Int) + (j : Int)) = (a : Int) := (i64_w _).trans e1
   have e5 : IntKind.i64.wrap ((k : Int) + (j : Int)) = (b : Int) := (i64_w _).trans e2
   have IH := Aside0.mk (H.out.below B.out)
   have k0 := IH.out.k0
   have k1 := IH.out.k1
   have hc := HC.out a han
   have k2 := (B.out.cell (World.block_lt_of_cell? w _ hc)).trans hc
   have hd := HC.out b hbn
   have k3 := (B.out.cell (World.block_lt_of_cell? w _ hd)).trans hd
   have k4 := IH.out.cl han
   have k5 := IH.out.cl hbn
   have p1 : ((a : Int) < (n : Int)) = True := eq_true (by omega)
   have p2 : (a < n) = True := eq_true han
   have p3 : ((b : Int) < (n : Int)) = True := eq_true (by omega)
   have p4 : (b < n) = True := eq_true hbn
   have HAB := Aside0.mk (show i + j = a ∧ k + j = b ∧ a < n ∧ b < n ∧ a ≠ b from ⟨ha, hb, han, hbn, by have := HI.out; omega⟩)
   have hW := HL.out.2.2.2.2.2
   have hP := HL.out.2.2.2.2.1
   rw [ha, hb] at hW hP
   have HW := Aside0.mk (And.intro hW hP)
   obtain ⟨sa, hsa⟩ : ∃ sa, s a = sa := ⟨_, rfl⟩
   obtain ⟨sb, hsb⟩ : ∃ sb, s b = sb := ⟨_, rfl⟩
   obtain ⟨la, hla⟩ : ∃ la, ls a = la := ⟨_, rfl⟩
   obtain ⟨lb, hlb⟩ : ∃ lb, ls b = lb := ⟨_, rfl⟩
   rw [hsa] at k2
   rw [hsb] at k3
   rw [hla] at k4
   rw [hlb] at k5
   clear hc hd ha hb han hbn hW hP
   by_cases g1 : sa = sb
   case neg =>
    have t1 : ((sa : Int) != (sb : Int)) = true := bne_iff_ne.2 (by omega)
    have t2 : (sa != sb) = true := bne_iff_ne.2 g1
    have HR := Aside0.mk (show decide (W n s ls i = W n s ls k) = false from decide_eq_false (fun e => sm_diff (n := n) (j := j) (s := s) (ls := ls) (a := a) (b := b) (fun e2 => g1 (by rw [← hsa, ← hsb]; exact (lt_eq e2).1)) (HW.out.1.1 e)))
    clear g1 hsa hsb hla hlb
    go_wp2
    go_quiet (fail)
    go_wp2
    go_ret
    rw [HR.out]
    exact ⟨rfl, pw_below_drewN B.out nq⟩
   subst g1
   have t1 : ((sa : Int) != (sa : Int)) = false := by simp
   by_cases g2 : la = lb
   case neg =>
    have HR := Aside0.mk (show decide (W n s ls i = W n s ls k) = false from decide_eq_false (fun e => sm_diff (n := n) (j := j) (s := s) (ls := ls) (a := a) (b := b) (fun e2 => g2 (by rw [← hla, ← hlb]; exact (lt_eq e2).2)) (HW.out.1.1 e)))
    obtain rfl : lb = !la := by cases la <;> cases lb <;> first | rfl | exact absurd rfl g2
    clear g2 hsa hsb hla hlb
    cases la with
    | true =>
     simp only [Bool.not_true] at k5
     go_wp2
     go_quiet (fail)
     go_wp2
     go_ret
     rw [HR.out]
     exact ⟨rfl, pw_below_drewN B.out nq⟩
    | false =>
     simp only [Bool.not_false] at k5
     go_wp2
     go_quiet (fail)
     go_wp2
     go_ret
     rw [HR.out]
     exact ⟨rfl, pw_below_drewN B.out nq⟩
   subst g2
   have t2 : (la != la) = false := by simp
   have HE := Aside0.mk (show lt_ s ls a = lt_ s ls b from lt_same (hsa.trans hsb.symm) (hla.trans hlb.symm))
   clear hsa hsb hla hlb
   go_wp2
   go_quiet (fail)
   obtain ⟨w1, hw1⟩ : ∃ w1, wr.drewN nq = w1 := ⟨_, rfl⟩
   have B1 := Aside0.mk (pw_below_drewN B.out nq)
   rw [hw1] at B1
   rw [hw1]
   clear hw1 k0 k1 k2 k3 k4 k5 IH B
   have I1 := Aside0.mk (H.out.below B1.out)
   by_cases g3 : j = 0
   ·have t3 : decide ((0 : Int) < (j : Int)) = false := decide_eq_false (by omega)
    have t4 : decide (0 < j) = false := decide_eq_false (by omega)
    have HJ := Aside0.mk g3
    clear g3
    go_wp2
    go_roundg q
    case measure => omega
    case rel =>
     have hn := sm_next HX.out (j := j) HAB.out.2.2.1 HAB.out.2.2.2.1 HAB.out.2.2.2.2 HE.out (fun h => absurd HJ.out h) (fun h => absurd HJ.out h)
     exact ⟨((j + 1 : Nat) : Int), j + 1, by simp only [e3], ⟨rfl, by have := HL.out; omega, by have := HAB.out; omega, by have := HAB.out; omega, fun _ => by have := HAB.out; rw [show i + (j + 1) - 1 = a from by omega, show k + (j + 1) - 1 = b from by omega]; exact HE.out, by
      rw [show i + (j + 1) = a + 1 from by have := HAB.out; omega, show k + (j + 1) = b + 1 from by have := HAB.out; omega]
      exact HW.out.1.trans hn.2.2⟩, B1⟩
   ·have t3 : decide ((0 : Int) < (j : Int)) = true := decide_eq_true (by omega)
    have t4 : decide (0 < j) = true := decide_eq_true (by omega)
    have ht : tn ls a = tn ls b := tn_same (by have := HAB.out; omega) (by have := HAB.out; omega) HE.out (HW.out.2 g3)
    have HJ := Aside0.mk g3
    clear g3
    cases hta : tn ls a with
    | true =>
     rw [hta] at ht
     have HT := Aside0.mk (And.intro hta ht.symm)
     have HR := Aside0.mk (show decide (W n s ls i = W n s ls k) = true from decide_eq_true (HW.out.1.2 (sm_tn HJ.out HE.out hta ht.symm)))
     clear hta ht
     go_wp2_with (first
      | (go_at_call 26; refine (turns_ok gx (some ad) c0 gl gz n m s ls _ a I1.out HAB.out.2.2.1).mono ?_; rintro e w2 ⟨rfl, hB⟩; rw [HT.out.1]; have B2 := Aside0.mk (below_step B1.out hB); have I2 := Aside0.mk (H.out.below B2.out); clear hB I1 B1)
      | (go_at_call 26; refine (turns_ok gx (some ad) c0 gl gz n m s ls _ a I2.out HAB.out.2.2.1).mono ?_; rintro e w3 ⟨rfl, hB⟩; rw [HT.out.1]; have B3 := Aside0.mk (below_step B2.out hB); have I3 := Aside0.mk (H.out.below B3.out); clear hB I2 B2)
      | (go_at_call 26; refine (turns_ok gx (some ad) c0 gl gz n m s ls _ b I3.out HAB.out.2.2.2.1).mono ?_; rintro e w4 ⟨rfl, hB⟩; rw [HT.out.2]; have B4 := Aside0.mk (below_step B3.out hB); clear hB))
     go_ret
     rw [HR.out]
     exact ⟨rfl, B4.out⟩
    | false =>
     rw [hta] at ht
     have HT := Aside0.mk (And.intro hta ht.symm)
     clear hta ht
     go_wp2_with (first
      | (go_at_call 26; refine (turns_ok gx (some ad) c0 gl gz n m s ls _ a I1.out HAB.out.2.2.1).mono ?_; rintro e w2 ⟨rfl, hB⟩; rw [HT.out.1]; have B2 := Aside0.mk (below_step B1.out hB); have I2 := Aside0.mk (H.out.below B2.out); clear hB I1 B1)
      | (go_at_call 26; refine (turns_ok gx (some ad) c0 gl gz n m s ls _ b I2.out HAB.out.2.2.2.1).mono ?_; rintro e w3 ⟨rfl, hB⟩; rw [HT.out.2]; have B3 := Aside0.mk (below_step B2.out hB); clear hB I2 B2))
     go_roundg q
     case measure => omega
     case rel =>
      have hn := sm_next HX.out (j := j) HAB.out.2.2.1 HAB.out.2.2.2.1 HAB.out.2.2.2.2 HE.out (fun _ => HT.out.1) (fun _ => HT.out.2)
      exact ⟨((j + 1 : Nat) : Int), j + 1, by simp only [e3], ⟨rfl, by have := HL.out; omega, by have := HAB.out; omega, by have := HAB.out; omega, fun _ => by have := HAB.out; rw [show i + (j + 1) - 1 = a from by omega, show k + (j + 1) - 1 = b from by omega]; exact HE.out, by
       rw [show i + (j + 1) = a + 1 from by have := HAB.out; omega, show k + (j + 1) = b + 1 from by have := HAB.out; omega]
       exact HW.out.1.trans hn.2.2⟩, B3⟩
end
end Go.Proofs.Ytfmgoealbaihjaa.Hd
/- suffix: names, walked by hand. -/
namespace Go.Proofs.Ytfmgoealbaihjaa.Sais
section
variable {n : Nat} {s : Nat → Nat} {ls : Nat → Bool}
/-- The names, after so many ends. -/
def stN (n : Nat) (s : Nat → Nat) (ls : Nat → Bool) (Lg : List Nat) (j : Nat) : (Nat → Nat) × Nat × Option Nat := nmL (W n s ls) ((Lg.take j).filter (tn ls))
theorem stN_zero (Lg : List Nat) : stN n s ls Lg 0 = (fun _ => 0, 0, none) := by simp [stN, nmL]
theorem stN_no {Lg : List Nat} {j x : Nat} (hj : Lg[j]? = some x) (h : tn ls x = false) : stN n s ls Lg (j + 1) = stN n s ls Lg j := by
 unfold stN
 rw [List.take_add_one, hj, List.filter_append]
 simp [h]
theorem stN_yes {Lg : List Nat} {j x : Nat} (hj : Lg[j]? = some x) (h : tn ls x = true) : stN n s ls Lg (j + 1) = nmStep (W n s ls) (stN n s ls Lg j) x := by
 unfold stN
 rw [← nmL_snoc, List.take_add_one, hj, List.filter_append]
 simp [h]
theorem stN_end (hx : Txt n s ls) : stN n s ls (asL n s ls (T0 n ls)) n = nms n s ls := by
 unfold stN nms srt
 rw [List.take_of_length_le (by rw [(asL_perm hx (T0_turns n ls)).len]; exact Nat.le_refl _)]
theorem stN_ok (hx : Txt n s ls) (j : Nat) : NmOk (W n s ls) (((asL n s ls (T0 n ls)).take j).filter (tn ls)) (stN n s ls (asL n s ls (T0 n ls)) j) := by
 have hp := asL_perm hx (T0_turns n ls)
 have hr := asL_rel hx (T0_turns n ls) (rels_word hx (T0_turns n ls))
 refine nm_ok _ _ rfl ((hp.nd.sublist (List.take_sublist _ _)).filter _) ((hr.sublist (List.take_sublist _ _)).filter _)
theorem stN_many (hx : Txt n s ls) (j : Nat) : (stN n s ls (asL n s ls (T0 n ls)) j).2.1 ≤ n := by
 have hk := stN_ok hx j
 have hp := asL_perm hx (T0_turns n ls)
 cases hL : (((asL n s ls (T0 n ls)).take j).filter (tn ls)).getLast? with
 | none =>
  have := (hk.z (List.getLast?_eq_none_iff.1 hL)).1
  omega
 | some x =>
  have h1 := (hk.l x hL).2.2
  have h2 : (((asL n s ls (T0 n ls)).take j).filter (tn ls)).length ≤ n := by
   have a := List.length_filter_le (tn ls) ((asL n s ls (T0 n ls)).take j)
   have b := List.length_take_le j (asL n s ls (T0 n ls))
   have c := hp.len
   have d := List.length_take (i := j) (l := asL n s ls (T0 n ls))
   omega
  omega
theorem stN_last (hx : Txt n s ls) {j x y : Nat} (hj : (asL n s ls (T0 n ls))[j]? = some x) (hy : (stN n s ls (asL n s ls (T0 n ls)) j).2.2 = some y) : y < n ∧ y ≠ x := by
 have hk := stN_ok hx j
 have hp := asL_perm hx (T0_turns n ls)
 cases hL : (((asL n s ls (T0 n ls)).take j).filter (tn ls)).getLast? with
 | none =>
  have := (hk.z (List.getLast?_eq_none_iff.1 hL)).2
  rw [this] at hy
  cases hy
 | some z =>
  have h1 := (hk.l z hL).1
  rw [h1] at hy
  obtain rfl : z = y := Option.some.inj hy
  have hm := (List.mem_filter.1 (List.mem_of_getLast? hL)).1
  refine ⟨hp.lt z (List.mem_of_mem_take hm), ?_⟩
  rintro rfl
  obtain ⟨i, hi, e⟩ := List.mem_take_iff_getElem.1 hm
  have : (asL n s ls (T0 n ls))[i]? = (asL n s ls (T0 n ls))[j]? := by
   rw [hj, ← e]
   exact List.getElem?_eq_getElem (by omega)
  have := (List.getElem?_inj (by omega) hp.nd).1 this
  omega
def rowL (n : Nat) (s : Nat → Nat) (ls : Nat → Bool) : List Nat := (T0 n ls).map (nms n s ls).1
def rowT (n : Nat) (s : Nat → Nat) (ls : Nat → Bool) (i : Nat) : List Nat := ((List.range i).filter (tn ls)).map (nms n s ls).1
theorem rowT_end : rowT n s ls n = rowL n s ls := rfl
theorem rowT_len (i : Nat) : (rowT n s ls i).length ≤ i := by
 unfold rowT
 rw [List.length_map]
 have := List.length_filter_le (tn ls) (List.range i)
 rw [List.length_range] at this
 exact this
theorem rowT_no {i : Nat} (h : tn ls i = false) : rowT n s ls (i + 1) = rowT n s ls i := by
 unfold rowT
 rw [List.range_succ, List.filter_append]
 simp [h]
theorem rowT_yes {i : Nat} (h : tn ls i = true) : rowT n s ls (i + 1) = rowT n s ls i ++ [(nms n s ls).1 i] := by
 unfold rowT
 rw [List.range_succ, List.filter_append]
 simp [h]
def lastI : Option Nat → Int
 | none => -1
 | some a => (a : Int)
end
end Go.Proofs.Ytfmgoealbaihjaa.Sais
namespace Go.Proofs.Ytfmgoealbaihjaa.Hd
open Go Go.RowKit Go.Proofs.YtfmgoealbaihjaaW.PrintWords Go.Proofs.YtfmgoealbaihjaaW.PrintLast Go.Proofs.YtfmgoealbaihjaaW.PrintMore Go.Proofs.Ytfmgoealbaihjaa.Hw Go.Proofs.Ytfmgoealbaihjaa.Com Go.Proofs.Ytfmgoealbaihjaa.Cn Go.Proofs.Ytfmgoealbaihjaa.P Go.Proofs.Ytfmgoealbaihjaa.Sais
attribute [local go_sem] max2_int min2_int max_two min_two max_three min_three max_four min_four
section
variable (gx : Nat) (A : Option Addr) (c0 gl gz n m : Nat) (s : Nat → Nat) (ls : Nat → Bool) (w : World)
set_option maxHeartbeats 16000000 in
set_option maxRecDepth 100000 in
theorem names_ok (AS : Option Addr) (cs : Nat) (h : Ind w gx A c0 gl gz n m s ls) (hx : Txt n s ls) (hC : Kd.C (Kd.int .i64) w AS n (iN (asL n s ls (T0 n ls)))) :
  Calls Try.prog 27 #[.pointer (some ⟨gx, 0, none⟩), .slice AS n cs] w fun e w' => ∃ v : Value, e = .returned (.tuple #[v, .int .i64 (((nms n s ls).2.1 + 1 : Nat) : Int)]) ∧ Kd.R (Kd.int .i64) 3 w' w.heap.size (fun _ => True) v (iN (rowL n s ls)) ∧ Below w.heap.size w w' := by
 have hp := asL_perm hx (T0_turns n ls)
 obtain ⟨Lg, hLg⟩ : ∃ Lg, asL n s ls (T0 n ls) = Lg := ⟨_, rfl⟩
 have hE := stN_end hx
 have hMany := stN_many hx
 have hLast := fun j x y => stN_last hx (j := j) (x := x) (y := y)
 rw [hLg] at hp hC hE hMany hLast
 have hn2 := hx.n2
 obtain ⟨adS, hadS, _⟩ := Kd.at_int hC 0 (by omega) (by omega)
 subst hadS
 have HCS := Aside0.mk (show ∀ (i x : Nat), Lg[i]? = some x → w.cell? (adS.add i) = some (.int .i64 (x : Int)) from fun i x hi => by
  have hil := (List.getElem?_eq_some_iff.1 hi).1
  obtain ⟨ad2, h1, h2⟩ := Kd.at_int hC (i : Int) (by omega) (by have := hp.len; omega)
  cases h1
  rw [Int.toNat_natCast, rd_nat, iN_getD, List.getD_eq_getElem?_getD, hi] at h2
  exact h2)
 have H := Aside0.mk h
 have HX := Aside0.mk hx
 have HP := Aside0.mk hp
 have HE := Aside0.mk hE
 have HMany := Aside0.mk hMany
 have HLast := Aside0.mk hLast
 have HN := Aside0.mk (And.intro hn2 h.n1)
 have k0 := h.k0
 clear h hx hp hE hMany hLast hC hn2 hLg
 go_enter Try.func27, Try.ntmps27
 go_wp2_with (first
  | ((with_reducible refine gate_dst (N := 18) rfl ?_); refine make_blk rfl rfl n rfl rfl Try.underlying22 .i64 info3 (by decide) (by have := HN.out; omega) ?_; intro g w2 G2 B2 C2))
 have B2' := Aside0.mk (show Blk w2 g .i64 3 (tabn n (fun x => (((stN n s ls Lg 0).1 x : Nat) : Int))) from by have := B2.out; rw [tabn_zero] at this; rw [stN_zero]; exact this)
 clear B2 k0
 go_loopg [7, 8, 21] n (fun q v7 v8 v21 w' => ∃ (L M la : Int) (j : Nat), v7 = .int .i64 M ∧ v8 = .int .i64 la ∧ v21 = .int .i64 L ∧ Aside0 (L = (j : Int) ∧ j + q = n ∧ M = (((stN n s ls Lg j).2.1 : Nat) : Int) ∧ la = lastI (stN n s ls Lg j).2.2) ∧ Aside0 (Blk w' g .i64 3 (tabn n (fun x => (((stN n s ls Lg j).1 x : Nat) : Int)))) ∧ Aside0 (Below w.heap.size w w'))
 case atStart => exact ⟨0, 0, -1, 0, rfl, rfl, rfl, ⟨rfl, by omega, by rw [stN_zero]; rfl, by rw [stN_zero]; rfl⟩, B2', C2⟩
 case round =>
  clear B2' C2
  obtain ⟨L, M, la, j, rfl, rfl, rfl, HL, B, C⟩ := hrel
  cases gk with
  | succ q =>
   obtain rfl : L = (j : Int) := HL.out.1
   have hjn : j < n := by have := HL.out; omega
   have t1 : decide ((j : Int) < (n : Int)) = true := decide_eq_true (by omega)
   have p1 : ((j : Int) < (n : Int)) = True := eq_true (by omega)
   have p2 : (j < n) = True := eq_true hjn
   obtain ⟨x, hxj⟩ : ∃ x, Lg[j]? = some x := ⟨_, List.getElem?_eq_getElem (by rw [HP.out.len]; exact hjn)⟩
   have hxn := HP.out.lt x (List.mem_of_getElem? hxj)
   have hc := HCS.out j x hxj
   have k2 := (C.out.cell (World.block_lt_of_cell? w _ hc)).trans hc
   have p3 : ((x : Int) < (n : Int)) = True := eq_true (by omega)
   have p4 : (x < n) = True := eq_true hxn
   have e1 : wrap64 ((j : Int) + 1) = ((j + 1 : Nat) : Int) := by have := HN.out; rw [w64 (by omega) (by omega)]; omega
   have IH := Aside0.mk (H.out.below C.out)
   have HXJ := Aside0.mk (And.intro hxj hxn)
   clear hc hxj hxn hjn
   cases ht : tn ls x with
   | false =>
    have HT := Aside0.mk ht
    clear ht
    go_wp2_with (first
     | (go_at_call 26; refine (turns_ok gx A c0 gl gz n m s ls _ x IH.out HXJ.out.2).mono ?_; rintro e w3 ⟨rfl, hB⟩; rw [HT.out]; have B3 := Aside0.mk (B.out.below hB); have C3 := Aside0.mk (below_step C.out hB); clear hB))
    go_roundg q
    case measure => omega
    case rel =>
     have e := stN_no (n := n) (s := s) HXJ.out.1 HT.out
     exact ⟨((j + 1 : Nat) : Int), M, la, j + 1, rfl, rfl, by simp only [e1], ⟨rfl, by have := HL.out; omega, by rw [e]; exact HL.out.2.2.1, by rw [e]; exact HL.out.2.2.2⟩, ⟨by rw [e]; exact B3.out⟩, C3⟩
   | true =>
    have HT := Aside0.mk ht
    have hst := stN_yes (n := n) (s := s) HXJ.out.1 ht
    have HMj := HMany.out j
    obtain ⟨st, hst2⟩ : ∃ st, stN n s ls Lg j = st := ⟨_, rfl⟩
    have HLs := HLast.out j x
    rw [hst2] at hst HL B HMj HLs
    obtain ⟨nmF, many, lst⟩ := st
    have HS := Aside0.mk hst
    clear ht hst hst2
    cases lst with
    | none =>
     obtain rfl : la = -1 := HL.out.2.2.2
     obtain rfl : M = (many : Int) := HL.out.2.2.1
     clear HMj HLs
     have hf : ∀ w', Blk w' g .i64 3 (tabn n (fun x => ((nmF x : Nat) : Int))) → Blk (w'.setCell ⟨g, x, none⟩ (.int .i64 (many : Int))) g .i64 3 (tabn n (fun y => (((stN n s ls Lg (j + 1)).1 y : Nat) : Int))) := by
      intro w' hb
      refine blk_step hb (fun y hy => ?_)
      rw [HS.out]
      show _ = ((upd nmF x many y : Nat) : Int)
      unfold upd
      split <;> rfl
     have HF := Aside0.mk hf
     clear hf
     go_wp2_with (first
      | (go_at_call 26; refine (turns_ok gx A c0 gl gz n m s ls _ x IH.out HXJ.out.2).mono ?_; rintro e w3 ⟨rfl, hB⟩; rw [HT.out]; have B3 := Aside0.mk (B.out.below hB); have C3 := Aside0.mk (below_step C.out hB); have kf := B3.out.free x; have kg := B3.out.cell x (by rw [tabn_length]; exact HXJ.out.2); clear hB))
     go_roundg q
     case measure => omega
     case rel =>
      exact ⟨((j + 1 : Nat) : Int), (many : Int), (x : Int), j + 1, rfl, rfl, by simp only [e1], ⟨rfl, by have := HL.out; omega, by rw [HS.out]; rfl, by rw [HS.out]; rfl⟩, ⟨HF.out _ B3.out⟩, ⟨below_set C3.out G2.out⟩⟩
    | some y =>
     obtain rfl : la = (y : Int) := HL.out.2.2.2
     obtain rfl : M = (many : Int) := HL.out.2.2.1
     have hy := HLs y HXJ.out.1 rfl
     have t3 : ((y : Int) != -1) = true := bne_iff_ne.2 (by omega)
     have HY := Aside0.mk hy
     have HM2 := Aside0.mk HMj
     clear HMj HLs hy
     obtain ⟨mx, hmx⟩ : ∃ mx, (if W n s ls y = W n s ls x then many else many + 1) = mx := ⟨_, rfl⟩
     have HMX := Aside0.mk hmx
     have hs2 : stN n s ls Lg (j + 1) = (upd nmF x mx, mx, some x) := by rw [HS.out, ← hmx]; rfl
     have HS2 := Aside0.mk hs2
     have hf : ∀ w', Blk w' g .i64 3 (tabn n (fun x => ((nmF x : Nat) : Int))) → Blk (w'.setCell ⟨g, x, none⟩ (.int .i64 (mx : Int))) g .i64 3 (tabn n (fun y => (((stN n s ls Lg (j + 1)).1 y : Nat) : Int))) := by
      intro w' hb
      refine blk_step hb (fun y hy => ?_)
      rw [HS2.out]
      show _ = ((upd nmF x mx y : Nat) : Int)
      unfold upd
      split <;> rfl
     have HF := Aside0.mk hf
     clear hf hs2
     by_cases hw : W n s ls y = W n s ls x
     ·have hd : decide (W n s ls y = W n s ls x) = true := decide_eq_true hw
      obtain rfl : many = mx := by rw [← hmx, if_pos hw]
      have HD := Aside0.mk hd
      clear hd hw hmx
      go_wp2_with (first
       | (go_at_call 26; refine (turns_ok gx A c0 gl gz n m s ls _ x IH.out HXJ.out.2).mono ?_; rintro e w3 ⟨rfl, hB⟩; rw [HT.out]; have B3 := Aside0.mk (B.out.below hB); have C3 := Aside0.mk (below_step C.out hB); have I3 := Aside0.mk (H.out.below C3.out); clear hB IH B C)
       | (go_at_call 29; refine (same_ok gx A c0 gl gz n m s ls _ y x I3.out HX.out HY.out.1 HXJ.out.2 HY.out.2).mono ?_; rintro e w4 ⟨rfl, hB⟩; rw [HD.out]; have B4 := Aside0.mk (B3.out.below hB); have C4 := Aside0.mk (below_step C3.out hB); have kf := B4.out.free x; have kg := B4.out.cell x (by rw [tabn_length]; exact HXJ.out.2); clear hB B3 C3))
      go_roundg q
      case measure => omega
      case rel =>
       exact ⟨((j + 1 : Nat) : Int), (many : Int), (x : Int), j + 1, rfl, rfl, by simp only [e1], ⟨rfl, by have := HL.out; omega, by rw [HS2.out], by rw [HS2.out]; rfl⟩, ⟨HF.out _ B4.out⟩, ⟨below_set C4.out G2.out⟩⟩
     ·have hd : decide (W n s ls y = W n s ls x) = false := decide_eq_false hw
      obtain rfl : many + 1 = mx := by rw [← hmx, if_neg hw]
      have HD := Aside0.mk hd
      have e2 : wrap64 ((many : Int) + 1) = ((many + 1 : Nat) : Int) := by have := HN.out; have h2 : many ≤ n := HM2.out; rw [w64 (by omega) (by omega)]; omega
      clear hd hw hmx
      go_wp2_with (first
       | (go_at_call 26; refine (turns_ok gx A c0 gl gz n m s ls _ x IH.out HXJ.out.2).mono ?_; rintro e w3 ⟨rfl, hB⟩; rw [HT.out]; have B3 := Aside0.mk (B.out.below hB); have C3 := Aside0.mk (below_step C.out hB); have I3 := Aside0.mk (H.out.below C3.out); clear hB IH B C)
       | (go_at_call 29; refine (same_ok gx A c0 gl gz n m s ls _ y x I3.out HX.out HY.out.1 HXJ.out.2 HY.out.2).mono ?_; rintro e w4 ⟨rfl, hB⟩; rw [HD.out]; have B4 := Aside0.mk (B3.out.below hB); have C4 := Aside0.mk (below_step C3.out hB); have kf := B4.out.free x; have kg := B4.out.cell x (by rw [tabn_length]; exact HXJ.out.2); clear hB B3 C3))
      go_roundg q
      case measure => omega
      case rel =>
       rw [e2]
       exact ⟨((j + 1 : Nat) : Int), ((many + 1 : Nat) : Int), (x : Int), j + 1, rfl, rfl, by simp only [e1], ⟨rfl, by have := HL.out; omega, by rw [HS2.out], by rw [HS2.out]; rfl⟩, ⟨HF.out _ B4.out⟩, ⟨below_set C4.out G2.out⟩⟩
  | zero =>
   have t1 : decide (L < (n : Int)) = false := decide_eq_false (by have := HL.out; omega)
   have ej : j = n := by have := HL.out; omega
   have hM := HL.out.2.2.1
   rw [ej, HE.out] at hM B
   subst hM
   have k0 := (H.out.below C.out).k0
   have EM := Aside0.mk (show wrap64 ((((nms n s ls).2.1 : Nat) : Int) + 1) = (((nms n s ls).2.1 + 1 : Nat) : Int) from by
    have h1 := HMany.out n
    rw [HE.out] at h1
    have := HN.out
    rw [w64 (by omega) (by omega)]; omega)
   clear HL ej
   go_wp2
   have R0 := Aside0.mk (show Kd.R (Kd.int .i64) 3 wr w.heap.size (fun k => k ≠ g) (.slice none 0 0) (iN (rowT n s ls 0)) from Kd.R_nil _ _ _ _ _)
   go_loopg [11, 51] n (fun q v11 v51 w' => ∃ (L : Int) (i : Nat) (A2 : Option Addr) (c2 : Nat), v11 = .slice A2 (iN (rowT n s ls i)).length c2 ∧ v51 = .int .i64 L ∧ Aside0 (L = (i : Int) ∧ i + q = n) ∧ Aside0 (Blk w' g .i64 3 (tabn n (fun x => (((nms n s ls).1 x : Nat) : Int)))) ∧ Aside0 (Kd.R (Kd.int .i64) 3 w' w.heap.size (fun k => k ≠ g) (.slice A2 (iN (rowT n s ls i)).length c2) (iN (rowT n s ls i))) ∧ Aside0 (Below w.heap.size w w'))
   case atStart => exact ⟨0, 0, none, 0, rfl, rfl, ⟨rfl, by omega⟩, B, R0, C⟩
   case round =>
    clear R0 B C k0 t1
    obtain ⟨L, i, A2, c2, rfl, rfl, HL, B, R, C⟩ := hrel
    cases gk with
    | zero =>
     have t1 : decide (L < (n : Int)) = false := decide_eq_false (by have := HL.out; omega)
     have ei : i = n := by have := HL.out; omega
     rw [ei, rowT_end] at R
     rw [ei]
     clear HL ei
     go_wp2
     go_ret2
     rw [EM.out]
     exact ⟨_, rfl, Kd.R_mono R.out (fun _ _ => trivial), C.out⟩
    | succ q =>
     obtain rfl : L = (i : Int) := HL.out.1
     have hin : i < n := by have := HL.out; omega
     have t1 : decide ((i : Int) < (n : Int)) = true := decide_eq_true (by omega)
     have p1 : ((i : Int) < (n : Int)) = True := eq_true (by omega)
     have p2 : (i < n) = True := eq_true hin
     have e1 : wrap64 ((i : Int) + 1) = ((i + 1 : Nat) : Int) := by have := HN.out; rw [w64 (by omega) (by omega)]; omega
     have IH := Aside0.mk (H.out.below C.out)
     have HIN := Aside0.mk hin
     clear hin
     cases ht : tn ls i with
     | false =>
      have HT := Aside0.mk ht
      clear ht
      go_wp2_with (first
       | (go_at_call 26; refine (turns_ok gx A c0 gl gz n m s ls _ i IH.out HIN.out).mono ?_; rintro e w3 ⟨rfl, hB⟩; rw [HT.out]; have B3 := Aside0.mk (B.out.below hB); have R3 := Aside0.mk (Kd.R_below R.out hB); have C3 := Aside0.mk (below_step C.out hB); clear hB))
      go_roundg q
      case measure => omega
      case rel =>
       have e := rowT_no (n := n) (s := s) HT.out
       refine ⟨((i + 1 : Nat) : Int), i + 1, A2, c2, by rw [e], by simp only [e1], ⟨rfl, by have := HL.out; omega⟩, B3, ⟨by rw [e]; exact R3.out⟩, C3⟩
     | true =>
      have HT := Aside0.mk ht
      clear ht
      obtain ⟨xs, hxs⟩ : ∃ xs, iN (rowT n s ls i) = xs := ⟨_, rfl⟩
      have hxl : xs.length ≤ n := by rw [← hxs, iN_len]; exact Nat.le_trans (rowT_len i) (Nat.le_of_lt HIN.out)
      obtain ⟨y, hy⟩ : ∃ y : Nat, (nms n s ls).1 i = y := ⟨_, rfl⟩
      have HXS := Aside0.mk (show iN (rowT n s ls (i + 1)) = xs ++ [(y : Int)] from by rw [rowT_yes HT.out, ← hxs, ← hy]; simp [iN])
      have HXL := Aside0.mk (show (xs.length + 1) * 8 ≤ 140737488355328 by have := HN.out; omega)
      have HY := Aside0.mk hy
      rw [hxs] at R
      rw [hxs]
      clear hxs hxl hy
      go_wp2_with (first
       | (go_at_call 26; refine (turns_ok gx A c0 gl gz n m s ls _ i IH.out HIN.out).mono ?_; rintro e w3 ⟨rfl, hB⟩; rw [HT.out]; have B3 := Aside0.mk (B.out.below hB); have R3 := Aside0.mk (Kd.R_below R.out hB); have C3 := Aside0.mk (below_step C.out hB); have kg : w3.cell? ⟨g, i, none⟩ = some (.int .i64 (y : Int)) := (by have h := B3.out.cell i (by rw [tabn_length]; exact HIN.out); rw [tabn_getD HIN.out, HY.out] at h; exact h); clear hB)
       | ((with_reducible refine gate_builtin (b := .append) (xs := #[.tmp 57, .tmp 62]) rfl ?_); at_builtin; refine Kd.R_append (Kd.int .i64) (w0 := w) w.heap.size rfl (.tmp 57) (.tmp 62) 22 3 (.int .i64 0) 8 rfl Try.underlying22 info3 rfl (by decide) (by decide) (.slice A2 xs.length c2) xs (y : Int) [.int .i64 (y : Int)] (fun k => k ≠ g) (fun _ => False) rfl (by first | (go_simp; done) | (go_simp; rfl)) ?aP (fun _ hk => hk.elim) ?aF ?aO ?aB ?aS ?aL ?_; (case aP => exact rfl); (case aF => exact (fun k hk => by have l1 := B3.out.lt; omega)); (case aO => exact R3.out); (case aB => exact C3.out); (case aS => exact C3.out.size); (case aL => exact HXL.out); intro v1 w5 ho5 hb5 hg5 ha5; obtain ⟨A3, c3, e3⟩ := Kd.R_slice ho5; subst e3; have B5 := Aside0.mk (B3.out.grown hg5 (fun e => (R3.out.1 g e.symm) rfl)); have O5 := Aside0.mk ho5; have C5 := Aside0.mk hb5; clear ho5 hb5 hg5 ha5))
      go_roundg q
      case measure => omega
      case rel =>
       exact ⟨((i + 1 : Nat) : Int), i + 1, A3, c3, by rw [HXS.out, List.length_append, List.length_singleton], by simp only [e1], ⟨rfl, by have := HL.out; omega⟩, B5, ⟨by rw [HXS.out]; exact O5.out⟩, C5⟩
end
end Go.Proofs.Ytfmgoealbaihjaa.Hd
/- suffix: induced, walked by hand. -/
namespace Go.Proofs.Ytfmgoealbaihjaa.Sais
section
variable {n : Nat} {s : Nat → Nat} {ls : Nat → Bool} {T : List Nat}
theorem T0_small (n : Nat) (ls : Nat → Bool) (hn : 1 ≤ n) : (T0 n ls).length < n := by
 have h1 : (T0 n ls) ⊆ (List.range n).erase 0 := by
  intro x hx
  have := ((T0_turns n ls).mem x).1 hx
  exact (List.mem_erase_of_ne (by have := (tn_iff.1 this.2).1; omega)).2 (List.mem_range.2 this.1)
 have := List.Nodup.length_le_of_subset (T0_turns n ls).nd h1
 rw [List.length_erase_of_mem (List.mem_range.2 (by omega)), List.length_range] at this
 omega
/-- What is in the order, after so many of the row. -/
def fO (n : Nat) (s : Nat → Nat) (ls : Nat → Bool) (i b : Nat) : Nat := if ((List.range i).any (fun a => row n s ls a == b)) = true then (srt n s ls).getD b 0 else 0
theorem fO_zero (b : Nat) : fO n s ls 0 b = 0 := by simp [fO]
theorem fO_succ (i b : Nat) : fO n s ls (i + 1) b = if b = row n s ls i then (srt n s ls).getD b 0 else fO n s ls i b := by
 unfold fO
 rw [List.range_succ, List.any_append]
 by_cases h : b = row n s ls i
 ·subst h; simp
 ·rw [if_neg h]
  have : ([i].any (fun a => row n s ls a == b)) = false := by
   simp; exact fun e => h e.symm
  rw [this, Bool.or_false]
theorem fO_end (hx : Txt n s ls) (he : (nms n s ls).2.1 + 1 = (T0 n ls).length) {b : Nat} (hb : b < (T0 n ls).length) : fO n s ls (T0 n ls).length b = (srt n s ls).getD b 0 := by
 obtain ⟨_, _, h3⟩ := ord_one hx he
 obtain ⟨r1, r2, r3, r4⟩ := row_ok hx
 obtain ⟨a, ha, e⟩ := range_all (n := (T0 n ls).length) (f := row n s ls) (fun a ha => by have := r3 a ha; omega) (fun a a' ha ha' e => by
  have h4 := h3 a ha
  have h5 := h3 a' ha'
  rw [e, h5] at h4
  have h6 := Option.some.inj h4
  rw [T0_getD ha, T0_getD ha'] at h6
  refine (List.getElem?_inj ha (T0_turns n ls).nd).1 ?_
  rw [List.getElem?_eq_getElem ha, List.getElem?_eq_getElem ha', h6]) b hb
 unfold fO
 rw [if_pos]
 simp only [List.any_eq_true, List.mem_range, beq_iff_eq]
 exact ⟨a, ha, e⟩
end
end Go.Proofs.Ytfmgoealbaihjaa.Sais
namespace Go.Proofs.Ytfmgoealbaihjaa.Hd
open Go Go.RowKit Go.Proofs.YtfmgoealbaihjaaW.PrintWords Go.Proofs.YtfmgoealbaihjaaW.PrintLast Go.Proofs.YtfmgoealbaihjaaW.PrintMore Go.Proofs.Ytfmgoealbaihjaa.Hw Go.Proofs.Ytfmgoealbaihjaa.Com Go.Proofs.Ytfmgoealbaihjaa.Cn Go.Proofs.Ytfmgoealbaihjaa.P Go.Proofs.Ytfmgoealbaihjaa.Sais
attribute [local go_sem] max2_int min2_int max_two min_two max_three min_three max_four min_four
theorem iN_tab (l : List Nat) : iN l = tabn l.length (fun i => ((l.getD i 0 : Nat) : Int)) := by
 rw [tabn_of (iN l), iN_len]
 exact tabn_congr (fun j _ => iN_getD l j)
theorem as_tab {n : Nat} {s : Nat → Nat} {ls : Nat → Bool} {T : List Nat} (hx : Txt n s ls) (hT : Turns n ls T) : tabn n (AS n s ls T) = iN (asL n s ls T) := by
 obtain ⟨_, h2, _, _⟩ := AS_ok hx hT
 unfold iN asL tabn
 rw [List.map_map]
 refine List.map_congr_left (fun j hj => ?_)
 obtain ⟨x, _, e⟩ := h2 j (List.mem_range.1 hj)
 simp [e]
theorem row_tab (n : Nat) (s : Nat → Nat) (ls : Nat → Bool) : iN (rowL n s ls) = tabn (T0 n ls).length (fun a => (row n s ls a : Int)) := by
 rw [iN_tab]
 unfold rowL
 rw [List.length_map]
 refine tabn_congr (fun j hj => ?_)
 rw [List.getD_eq_getElem?_getD, List.getElem?_map, List.getElem?_eq_getElem hj]
 unfold row
 rw [T0_getD hj]; rfl
theorem map_getD (f : Nat → Nat) (l : List Nat) (i : Nat) (h : i < l.length) : (l.map f).getD i 0 = f (l.getD i 0) := by
 rw [List.getD_eq_getElem?_getD, List.getElem?_map, List.getD_eq_getElem?_getD, List.getElem?_eq_getElem h]; rfl
theorem blk_C {W : World} {g : Nat} {l : List Int} (h : Blk W g .i64 3 l) (hl : l.length ≤ 1099511627776) : Kd.C (Kd.int .i64) W (some ⟨g, 0, none⟩) l.length l :=
 (Kd.R_reads' (h.R (Nat.zero_le g) (by simp [maxLen]; omega) (fun _ => True) trivial)).2.2
theorem c_cell {W : World} {A : Option Addr} {l : List Nat} {k : Nat} (h : Kd.C (Kd.int .i64) W A k (iN l)) {i : Nat} (hi : i < l.length) (hk : k = l.length) : ∃ ad : Addr, A = some ad ∧ W.cell? (ad.add i) = some (.int .i64 ((l.getD i 0 : Nat) : Int)) := by
 obtain ⟨ad2, h1, h2⟩ := Kd.at_int h (i : Int) (by omega) (by omega)
 rw [Int.toNat_natCast, rd_nat, iN_getD] at h2
 exact ⟨ad2, h1, h2⟩
/-- A text that is sorted. -/
structure Num (n m : Nat) (s : Nat → Nat) : Prop where
 n1 : 1 ≤ n
 last : s (n - 1) = 0
 pos : ∀ i, i + 1 < n → 0 < s i
 sm : ∀ i, i < n → s i < m
 nb : n ≤ 1099511627776
 mb : m ≤ 1099511627776
def IndOk (n : Nat) : Prop := ∀ (m : Nat) (s : Nat → Nat) (A : Option Addr) (c0 : Nat) (w : World), Num n m s → Kd.C (Kd.int .i64) w A n (tabn n (fun i => (s i : Int))) →
 Calls Try.prog 20 #[.slice A n c0, .int .i64 (m : Int)] w fun e w' => ∃ (g c : Nat) (sa : List Nat), e = .returned (.slice (some ⟨g, 0, none⟩) n c) ∧ c = n ∧ w.heap.size ≤ g ∧ Blk w' g .i64 3 (iN sa) ∧ IsSA n s sa ∧ Below w.heap.size w w'
section
variable (gx : Nat) (A : Option Addr) (c0 gl gz n m : Nat) (s : Nat → Nat) (ls : Nat → Bool) (w : World)
theorem induce_at (AT : Option Addr) (ct k : Nat) (T : List Nat) (hk : T.length = k) (h : Ind w gx A c0 gl gz n m s ls) (hx : Txt n s ls) (hsm : ∀ i, i < n → s i < m) (hTC : Kd.C (Kd.int .i64) w AT k (iN T)) (hT : Turns n ls T) :
  Calls Try.prog 28 #[.pointer (some ⟨gx, 0, none⟩), .slice AT k ct] w fun e w' => ∃ g : Nat, e = .returned (.slice (some ⟨g, 0, none⟩) n n) ∧ w.heap.size ≤ g ∧ Blk w' g .i64 3 (iN (asL n s ls T)) ∧ Below w.heap.size w w' := by
 subst hk
 rw [← as_tab hx hT]
 exact induce_ok gx A c0 gl gz n m s ls w AT ct T h hx hsm hTC hT
theorem names_at (g4 k : Nat) (h : Ind w gx A c0 gl gz n m s ls) (hx : Txt n s ls) (hK : Blk w g4 .i64 3 (iN (asL n s ls (T0 n ls)))) (hn : n ≤ 1099511627776) (hk : (nms n s ls).2.1 + 1 = k) :
  Calls Try.prog 27 #[.pointer (some ⟨gx, 0, none⟩), .slice (some ⟨g4, 0, none⟩) n n] w fun e w' => ∃ v : Value, e = .returned (.tuple #[v, .int .i64 ((k : Nat) : Int)]) ∧ Kd.R (Kd.int .i64) 3 w' w.heap.size (fun _ => True) v (iN (rowL n s ls)) ∧ Below w.heap.size w w' := by
 subst hk
 refine names_ok gx A c0 gl gz n m s ls w (some ⟨g4, 0, none⟩) n h hx ?_
 have h2 := blk_C hK (by rw [iN_len, (asL_perm hx (T0_turns n ls)).len]; exact hn)
 rw [iN_len, (asL_perm hx (T0_turns n ls)).len] at h2
 exact h2
end
set_option maxHeartbeats 16000000 in
set_option maxRecDepth 100000 in
theorem induced_ok : ∀ N n, n ≤ N → IndOk n := by
 intro N
 induction N with
 | zero => intro n hn m s A c0 w hN; have := hN.n1; omega
 | succ N ih =>
  intro n hn m s A c0 w hN hC
  by_cases h1 : n = 1
  ·subst h1
   clear hC hN
   go_enter Try.func20, Try.ntmps20
   go_wp2
   go_ret
   exact ⟨w.heap.size, 1, [0], rfl, rfl, Nat.le_refl _, blk_new w _, ⟨⟨rfl, by simp, by simp⟩, by simp⟩, below_alloc (Below.refl _ _) _⟩
  have hx : Txt n s (less n s) := txt_of (by have := hN.n1; omega) hN.last hN.pos
  have hind := ih (T0 n (less n s)).length (by have := T0_small n (less n s) hN.n1; omega)
  have HX := Aside0.mk hx
  have HN := Aside0.mk hN
  have HC := Aside0.mk hC
  have HIND := Aside0.mk hind
  have t1 : ((n : Int) == 1) = false := beq_false_of_ne (by omega)
  have t2 : (n == 1) = false := beq_false_of_ne h1
  clear ih hx hind h1 hn hC hN
  go_enter Try.func20, Try.ntmps20
  go_wp2_with (first
   | (go_at_call 25; refine (fresh_ok A c0 n m s _ HC.out HN.out.n1 HN.out.nb HN.out.mb HN.out.sm).mono ?_; rintro e w2 ⟨gx, gl, gz, rfl, hI, hB⟩; have I2 := Aside0.mk hI; have B2 := Aside0.mk hB; clear hI hB))
  obtain ⟨ls, hls⟩ : ∃ ls, less n s = ls := ⟨_, rfl⟩
  rw [hls] at HX HIND I2
  have R0 := Aside0.mk (show Kd.R (Kd.int .i64) 3 w2 w2.heap.size (fun _ => True) (.slice none 0 0) (iN ((List.range 0).filter (tn ls))) from Kd.R_nil _ _ _ _ _)
  clear t1 t2
  go_loopg [6, 24] n (fun q v6 v24 w' => ∃ (L : Int) (i : Nat) (A2 : Option Addr) (c2 : Nat), v6 = .slice A2 (iN ((List.range i).filter (tn ls))).length c2 ∧ v24 = .int .i64 L ∧ Aside0 (L = (i : Int) ∧ i + q = n) ∧ Aside0 (Kd.R (Kd.int .i64) 3 w' w2.heap.size (fun _ => True) (.slice A2 (iN ((List.range i).filter (tn ls))).length c2) (iN ((List.range i).filter (tn ls)))) ∧ Aside0 (Below w2.heap.size w2 w'))
  case atStart => exact ⟨0, 0, none, 0, rfl, rfl, ⟨rfl, by omega⟩, R0, ⟨Below.refl _ _⟩⟩
  case round =>
   clear R0
   obtain ⟨L, i, A2, c2, rfl, rfl, HL, R, C⟩ := hrel
   cases gk with
   | succ q =>
    obtain rfl : L = (i : Int) := HL.out.1
    have hin : i < n := by have := HL.out; omega
    have t1 : decide ((i : Int) < (n : Int)) = true := decide_eq_true (by omega)
    have p1 : ((i : Int) < (n : Int)) = True := eq_true (by omega)
    have p2 : (i < n) = True := eq_true hin
    have e1 : wrap64 ((i : Int) + 1) = ((i + 1 : Nat) : Int) := by have := HN.out.nb; rw [w64 (by omega) (by omega)]; omega
    have IH := Aside0.mk (I2.out.below C.out)
    have HIN := Aside0.mk hin
    clear hin
    cases ht : tn ls i with
    | false =>
     have HT := Aside0.mk ht
     clear ht
     go_wp2_with (first
      | (go_at_call 26; refine (turns_ok gx A c0 gl gz n m s ls _ i IH.out HIN.out).mono ?_; rintro e w3 ⟨rfl, hB⟩; rw [HT.out]; have R3 := Aside0.mk (Kd.R_below R.out hB); have C3 := Aside0.mk (below_step C.out hB); clear hB))
     go_roundg q
     case measure => omega
     case rel =>
      have e : (List.range (i + 1)).filter (tn ls) = (List.range i).filter (tn ls) := by rw [List.range_succ, List.filter_append]; simp [HT.out]
      exact ⟨((i + 1 : Nat) : Int), i + 1, A2, c2, by rw [e], by simp only [e1], ⟨rfl, by have := HL.out; omega⟩, ⟨by rw [e]; exact R3.out⟩, C3⟩
    | true =>
     have HT := Aside0.mk ht
     clear ht
     obtain ⟨xs, hxs⟩ : ∃ xs, iN ((List.range i).filter (tn ls)) = xs := ⟨_, rfl⟩
     have hxl : xs.length ≤ i := by
      rw [← hxs, iN_len]
      have := List.length_filter_le (tn ls) (List.range i)
      rw [List.length_range] at this; exact this
     have HXS := Aside0.mk (show iN ((List.range (i + 1)).filter (tn ls)) = xs ++ [(i : Int)] from by rw [List.range_succ, List.filter_append, ← hxs]; simp [iN, HT.out])
     have HXL := Aside0.mk (show (xs.length + 1) * 8 ≤ 140737488355328 by have := HN.out.nb; have := HIN.out; omega)
     rw [hxs] at R
     rw [hxs]
     clear hxs hxl
     go_wp2_with (first
      | (go_at_call 26; refine (turns_ok gx A c0 gl gz n m s ls _ i IH.out HIN.out).mono ?_; rintro e w3 ⟨rfl, hB⟩; rw [HT.out]; have R3 := Aside0.mk (Kd.R_below R.out hB); have C3 := Aside0.mk (below_step C.out hB); clear hB)
      | ((with_reducible refine gate_builtin (b := .append) (xs := #[.tmp 30, .tmp 32]) rfl ?_); at_builtin; refine Kd.R_append (Kd.int .i64) (w0 := w2) w2.heap.size rfl (.tmp 30) (.tmp 32) 22 3 (.int .i64 0) 8 rfl Try.underlying22 info3 rfl (by decide) (by decide) (.slice A2 xs.length c2) xs (i : Int) [.int .i64 (i : Int)] (fun _ => True) (fun _ => False) rfl (by first | (go_simp; done) | (go_simp; rfl)) ?aP (fun _ hk => hk.elim) ?aF ?aO ?aB ?aS ?aL ?_; (case aP => exact rfl); (case aF => exact (fun _ _ => trivial)); (case aO => exact R3.out); (case aB => exact C3.out); (case aS => exact C3.out.size); (case aL => exact HXL.out); intro v1 w5 ho5 hb5 hg5 ha5; obtain ⟨A3, c3, e3⟩ := Kd.R_slice ho5; subst e3; have O5 := Aside0.mk ho5; have C5 := Aside0.mk hb5; clear ho5 hb5 hg5 ha5))
     go_roundg q
     case measure => omega
     case rel =>
      exact ⟨((i + 1 : Nat) : Int), i + 1, A3, c3, by rw [HXS.out, List.length_append, List.length_singleton], by simp only [e1], ⟨rfl, by have := HL.out; omega⟩, ⟨by rw [HXS.out]; exact O5.out⟩, C5⟩
   | zero =>
    have t1 : decide (L < (n : Int)) = false := decide_eq_false (by have := HL.out; omega)
    have ei : i = n := by have := HL.out; omega
    obtain ⟨m0, hm0⟩ : ∃ m0, (T0 n ls).length = m0 := ⟨_, rfl⟩
    have HM0 := Aside0.mk hm0
    have I3 := Aside0.mk (I2.out.below C.out)
    have CT := Aside0.mk (show Kd.C (Kd.int .i64) wr A2 m0 (iN (T0 n ls)) from by
     have h := (Kd.R_reads' R.out).2.2
     rw [ei] at h
     have : (iN ((List.range n).filter (tn ls))).length = m0 := by rw [iN_len, ← hm0]; rfl
     rw [this] at h
     exact h)
    have el : (iN ((List.range i).filter (tn ls))).length = m0 := by rw [ei, iN_len, ← hm0]; rfl
    rw [el]
    have C4 := Aside0.mk (below_step B2.out C.out)
    clear HL ei el R C hm0
    have hlen0 := (row_ok HX.out).2.2.2
    obtain ⟨nms1, hnms1⟩ : ∃ k, (nms n s ls).2.1 + 1 = k := ⟨_, rfl⟩
    have HNM := Aside0.mk (show nms1 ≤ m0 ∧ m0 < n from by have h1 := HM0.out; have h2 := T0_small n ls HN.out.n1; omega)
    have HN1 := Aside0.mk hnms1
    clear hlen0
    have hrl : (iN (rowL n s ls)).length = m0 := by rw [iN_len]; unfold rowL; rw [List.length_map]; exact HM0.out
    have HRL := Aside0.mk hrl
    clear hrl
    have AR := Aside0.mk (show ∀ (w5 : World) (A5 : Option Addr) (c5 : Nat), Kd.C (Kd.int .i64) w5 A5 m0 (iN (rowL n s ls)) → ∀ i, i < m0 → ∃ ad : Addr, A5 = some ad ∧ w5.cell? (ad.add i) = some (.int .i64 (row n s ls i : Int)) from fun w5 A5 c5 hC i hi => by
     rw [row_tab] at hC
     obtain ⟨ad2, h1, h2⟩ := Kd.at_int hC (i : Int) (by omega) (by omega)
     rw [Int.toNat_natCast, rd_nat, tabn_getD (by rw [HM0.out]; exact hi)] at h2
     exact ⟨ad2, h1, h2⟩)
    have hpos0 : 0 < m0 := by have := (T0_last HX.out).1; rw [HM0.out] at this; exact this
    have HPOS := Aside0.mk hpos0
    have hret : ∀ (T : List Nat) (g8 : Nat) (w0 w8 : World), T.length = m0 → Turns n ls T → T.Pairwise (slt n s) → Below w.heap.size w w0 → w0.heap.size ≤ g8 → Blk w8 g8 .i64 3 (iN (asL n s ls T)) → Below w0.heap.size w0 w8 →
      ∃ (g c : Nat) (sa : List Nat), Ending.returned (.slice (some ⟨g8, 0, none⟩) n n) = .returned (.slice (some ⟨g, 0, none⟩) n c) ∧ c = n ∧ w.heap.size ≤ g ∧ Blk w8 g .i64 3 (iN sa) ∧ IsSA n s sa ∧ Below w.heap.size w w8 :=
     fun T g8 w0 w8 _ hT hO hB hg hK hB2 => ⟨g8, n, asL n s ls T, rfl, rfl, Nat.le_trans hB.size hg, hK, asL_sa HX.out hT hO, below_step hB hB2⟩
    have HRET := Aside0.mk hret
    clear hret hpos0
    by_cases he : nms1 = m0
    ·have t3 : ((nms1 : Int) == (m0 : Int)) = true := beq_iff_eq.2 (by omega)
     have t4 : (nms1 == m0) = true := beq_iff_eq.2 he
     have HE := Aside0.mk (show (nms n s ls).2.1 + 1 = (T0 n ls).length from by rw [HN1.out, HM0.out]; exact he)
     clear he
     go_wp2_with (first
      | (go_at_call 28; with_reducible refine (induce_at gx A c0 gl gz n m s ls _ A2 c2 m0 (T0 n ls) HM0.out I3.out HX.out HN.out.sm CT.out (T0_turns n ls)).mono ?_; rintro e w4 ⟨g4, rfl, hG, hK, hB⟩; have K4 := Aside0.mk hK; have I4 := Aside0.mk (I3.out.below hB); have CT4 := Aside0.mk (Kd.C_below CT.out hB); have B4 := Aside0.mk (below_step C4.out hB); clear hG hK hB I3 CT C4)
      | (go_at_call 27; with_reducible refine (names_at gx A c0 gl gz n m s ls _ g4 nms1 I4.out HX.out K4.out HN.out.nb HN1.out).mono ?_; rintro e w5 ⟨v5, rfl, hR, hB⟩; obtain ⟨A5, c5, e5⟩ := Kd.R_slice hR; rw [HRL.out] at e5; subst e5; have R5 := Aside0.mk (show Kd.C (Kd.int .i64) w5 A5 m0 (iN (rowL n s ls)) from by (have h := (Kd.R_reads' hR).2.2; rw [HRL.out] at h; exact h)); have I5 := Aside0.mk (I4.out.below hB); have CT5 := Aside0.mk (Kd.C_below CT4.out hB); have B5 := Aside0.mk (below_step B4.out hB); clear hR hB I4 CT4 K4 B4)
      | ((with_reducible refine gate_dst (N := 45) rfl ?_); refine make_blk rfl rfl m0 rfl rfl Try.underlying22 .i64 info3 (by decide) (by have := HN.out.nb; have := HNM.out; omega) ?_; intro go w6 G6 K6 B6))
     have K6' := Aside0.mk (show Blk w6 go .i64 3 (tabn m0 (fun b => (fO n s ls 0 b : Int))) from by have := K6.out; rw [tabn_zero] at this; exact (congrArg (Blk _ go .i64 3) (tabn_congr (fun j _ => by rw [fO_zero]; rfl))).mp this)
     clear K6
     obtain ⟨adR, hadR, _⟩ := AR.out w5 A5 c5 R5.out 0 HPOS.out
     obtain ⟨adT, hadT, _⟩ := c_cell CT5.out (i := 0) (by rw [HM0.out]; exact HPOS.out) HM0.out.symm
     subst hadR hadT
     go_loopg [52] m0 (fun q v52 w' => ∃ (L : Int) (i : Nat), v52 = .int .i64 L ∧ Aside0 (L = (i : Int) ∧ i + q = m0) ∧ Aside0 (Blk w' go .i64 3 (tabn m0 (fun b => (fO n s ls i b : Int)))) ∧ Aside0 (Below w5.heap.size w5 w'))
     case atStart => exact ⟨0, 0, rfl, ⟨rfl, by omega⟩, K6', B6⟩
     case round =>
      clear K6' B6
      obtain ⟨L, i, rfl, HL, K, C⟩ := hrel
      cases gk with
      | succ q =>
       obtain rfl : L = (i : Int) := HL.out.1
       have him : i < m0 := by have := HL.out; omega
       have t1 : decide ((i : Int) < (m0 : Int)) = true := decide_eq_true (by omega)
       have p1 : ((i : Int) < (m0 : Int)) = True := eq_true (by omega)
       have p2 : (i < m0) = True := eq_true him
       have e1 : wrap64 ((i : Int) + 1) = ((i + 1 : Nat) : Int) := by have := HN.out.nb; have := HNM.out; rw [w64 (by omega) (by omega)]; omega
       obtain ⟨_, h1, h2⟩ := AR.out w5 (some adR) c5 R5.out i him
       cases h1
       have k1 := (C.out.cell (World.block_lt_of_cell? w5 _ h2)).trans h2
       obtain ⟨_, h3, h4⟩ := c_cell CT5.out (i := i) (by rw [HM0.out]; exact him) HM0.out.symm
       cases h3
       have k2 := (C.out.cell (World.block_lt_of_cell? w5 _ h4)).trans h4
       have hrm := (row_ok HX.out).2.2.1 i (by rw [HM0.out]; exact him)
       rw [HE.out, HM0.out] at hrm
       have ho := (ord_one HX.out HE.out).2.2 i (by rw [HM0.out]; exact him)
       have hfs := fO_succ (n := n) (s := s) (ls := ls) i
       obtain ⟨r, hr⟩ : ∃ r, row n s ls i = r := ⟨_, rfl⟩
       obtain ⟨x, hx⟩ : ∃ x, (T0 n ls).getD i 0 = x := ⟨_, rfl⟩
       rw [hr] at k1 hrm ho hfs
       rw [hx] at k2 ho
       have p3 : ((r : Int) < (m0 : Int)) = True := eq_true (by omega)
       have p4 : (r < m0) = True := eq_true hrm
       have kf := K.out.free r
       have kg := K.out.cell r (by rw [tabn_length]; exact hrm)
       have HO := Aside0.mk (And.intro ho hfs)
       clear h2 h4 him hrm ho hfs hr hx
       go_wp2
       go_roundg q
       case measure => omega
       case rel =>
        refine ⟨((i + 1 : Nat) : Int), i + 1, by first | rfl | simp only [e1] | (rw [e1]), ⟨rfl, by have := HL.out; omega⟩, ⟨blk_step K.out (fun b hb => ?_)⟩, ⟨below_set C.out G6.out⟩⟩
        rw [HO.out.2 b]
        by_cases e : b = r
        ·rw [if_pos e, if_pos e, e, List.getD_eq_getElem?_getD, HO.out.1]; rfl
        ·rw [if_neg e, if_neg e]
      | zero =>
       have t1 : decide (L < (m0 : Int)) = false := decide_eq_false (by have := HL.out; omega)
       have hsl : (srt n s ls).length = m0 := by rw [srt_len HX.out, HM0.out]
       have K9 := Aside0.mk (show Blk wr go .i64 3 (iN (srt n s ls)) from by
        rw [iN_tab, hsl]
        refine (congrArg (Blk _ go .i64 3) (tabn_congr (fun b hb => ?_))).mp K.out
        have ei : i = (T0 n ls).length := by rw [HM0.out]; have := HL.out; omega
        rw [ei, fO_end HX.out HE.out (by rw [HM0.out]; exact hb)])
       have HSL := Aside0.mk hsl
       have C9 := Aside0.mk (below_step B5.out C.out)
       have I9 := Aside0.mk (I5.out.below C.out)
       have CK := Aside0.mk (show Kd.C (Kd.int .i64) wr (some ⟨go, 0, none⟩) m0 (iN (srt n s ls)) from by
        have h := blk_C K9.out (by rw [iN_len, hsl]; have := HN.out.nb; have := HNM.out; omega)
        rw [iN_len, hsl] at h; exact h)
       clear hsl HL K C K9
       go_wp2_with (first
        | (go_at_call 28; with_reducible refine (induce_at gx A c0 gl gz n m s ls _ (some ⟨go, 0, none⟩) m0 m0 (srt n s ls) HSL.out I9.out HX.out HN.out.sm CK.out (ord_one HX.out HE.out).1).mono ?_; rintro e w8 ⟨g8, rfl, hG, hK, hB⟩; have K8 := Aside0.mk (And.intro hG (And.intro hK hB)); clear hG hK hB))
       go_ret
       exact HRET.out (srt n s ls) g8 wr w8 HSL.out (ord_one HX.out HE.out).1 (ord_one HX.out HE.out).2.1 C9.out K8.out.1 K8.out.2.1 K8.out.2.2
    ·have t3 : ((nms1 : Int) == (m0 : Int)) = false := beq_false_of_ne (by omega)
     have t4 : (nms1 == m0) = false := beq_false_of_ne he
     have HNum := Aside0.mk (show Num m0 nms1 (row n s ls) from by
      obtain ⟨r1, r2, r3, r4⟩ := row_ok HX.out
      rw [HM0.out] at r1 r2 r3 r4
      rw [HN1.out] at r3 r4
      have := HN.out.nb
      have := HNM.out
      exact ⟨HPOS.out, r1, r2, r3, by omega, by omega⟩)
     have hi0 := HIND.out
     rw [HM0.out] at hi0
     unfold IndOk at hi0
     have HI0 := Aside0.mk hi0
     clear hi0
     clear he
     go_wp2_with (first
      | (go_at_call 28; with_reducible refine (induce_at gx A c0 gl gz n m s ls _ A2 c2 m0 (T0 n ls) HM0.out I3.out HX.out HN.out.sm CT.out (T0_turns n ls)).mono ?_; rintro e w4 ⟨g4, rfl, hG, hK, hB⟩; have K4 := Aside0.mk hK; have I4 := Aside0.mk (I3.out.below hB); have CT4 := Aside0.mk (Kd.C_below CT.out hB); have B4 := Aside0.mk (below_step C4.out hB); clear hG hK hB I3 CT C4)
      | (go_at_call 27; with_reducible refine (names_at gx A c0 gl gz n m s ls _ g4 nms1 I4.out HX.out K4.out HN.out.nb HN1.out).mono ?_; rintro e w5 ⟨v5, rfl, hR, hB⟩; obtain ⟨A5, c5, e5⟩ := Kd.R_slice hR; rw [HRL.out] at e5; subst e5; have R5 := Aside0.mk (show Kd.C (Kd.int .i64) w5 A5 m0 (iN (rowL n s ls)) from by (have h := (Kd.R_reads' hR).2.2; rw [HRL.out] at h; exact h)); have I5 := Aside0.mk (I4.out.below hB); have CT5 := Aside0.mk (Kd.C_below CT4.out hB); have B5 := Aside0.mk (below_step B4.out hB); clear hR hB I4 CT4 K4 B4)
      | ((with_reducible refine gate_dst (N := 45) rfl ?_); refine make_blk rfl rfl m0 rfl rfl Try.underlying22 .i64 info3 (by decide) (by have := HN.out.nb; have := HNM.out; omega) ?_; intro go w6 G6 K6 B6)
      | (go_at_call 20; with_reducible refine (HI0.out nms1 (row n s ls) A5 c5 w6 HNum.out (by have h := Kd.C_below R5.out B6.out; rw [row_tab, HM0.out] at h; exact h)).mono ?_; rintro e w7 ⟨g7, c7, sa, rfl, hc7, hG, hK, hS, hB⟩; have G7 := Aside0.mk hG; have S7 := Aside0.mk hS; have K7 := Aside0.mk hK; have KO := Aside0.mk (show Blk w7 go .i64 3 (tabn m0 (fun b => if b < 0 then (((T0 n ls).getD (sa.getD b 0) 0 : Nat) : Int) else 0)) from by (have h := K6.out.below hB; rw [tabn_zero] at h; exact (congrArg (Blk _ go .i64 3) (tabn_congr (fun j _ => (if_neg (Nat.not_lt_zero j)).symm))).mp h)); have B7 := Aside0.mk (below_step B6.out hB); have NE := Aside0.mk (show go ≠ g7 from by have := K6.out.lt; omega); clear hc7 hG hK hS hB K6 B6))
     obtain ⟨adT, hadT, _⟩ := c_cell CT5.out (i := 0) (by rw [HM0.out]; exact HPOS.out) HM0.out.symm
     subst hadT
     clear G7
     go_loopg [69] m0 (fun q v69 w' => ∃ (L : Int) (i : Nat), v69 = .int .i64 L ∧ Aside0 (L = (i : Int) ∧ i + q = m0) ∧ Aside0 (Blk w' go .i64 3 (tabn m0 (fun b => if b < i then (((T0 n ls).getD (sa.getD b 0) 0 : Nat) : Int) else 0))) ∧ Aside0 (Blk w' g7 .i64 3 (iN sa)) ∧ Aside0 (Below w5.heap.size w5 w'))
     case atStart => exact ⟨0, 0, rfl, ⟨rfl, by omega⟩, KO, K7, B7⟩
     case round =>
      clear KO K7 B7
      obtain ⟨L, i, rfl, HL, K, KS, C⟩ := hrel
      cases gk with
      | succ q =>
       obtain rfl : L = (i : Int) := HL.out.1
       have him : i < m0 := by have := HL.out; omega
       have t1 : decide ((i : Int) < (m0 : Int)) = true := decide_eq_true (by omega)
       have p1 : ((i : Int) < (m0 : Int)) = True := eq_true (by omega)
       have p2 : (i < m0) = True := eq_true him
       have e1 : wrap64 ((i : Int) + 1) = ((i + 1 : Nat) : Int) := by have := HN.out.nb; have := HNM.out; rw [w64 (by omega) (by omega)]; omega
       have hsl := S7.out.p.len
       have k1 := KS.out.cell i (by rw [iN_len, hsl]; exact him)
       rw [iN_getD] at k1
       have hym := S7.out.p.lt (sa.getD i 0) (by rw [List.getD_eq_getElem?_getD, List.getElem?_eq_getElem (by omega)]; exact List.getElem_mem _)
       obtain ⟨y, hy⟩ : ∃ y, sa.getD i 0 = y := ⟨_, rfl⟩
       rw [hy] at k1 hym
       have p3 : ((y : Int) < (m0 : Int)) = True := eq_true (by omega)
       have p4 : (y < m0) = True := eq_true hym
       obtain ⟨_, h3, h4⟩ := c_cell CT5.out (i := y) (by rw [HM0.out]; exact hym) HM0.out.symm
       cases h3
       have k2 := (C.out.cell (World.block_lt_of_cell? w5 _ h4)).trans h4
       obtain ⟨x, hx⟩ : ∃ x, (T0 n ls).getD y 0 = x := ⟨_, rfl⟩
       rw [hx] at k2
       have kf := K.out.free i
       have kg := K.out.cell i (by rw [tabn_length]; exact him)
       have HO := Aside0.mk (And.intro hy hx)
       clear h4 him hym hy hx hsl
       go_wp2
       go_roundg q
       case measure => omega
       case rel =>
        refine ⟨((i + 1 : Nat) : Int), i + 1, by first | rfl | simp only [e1] | (rw [e1]), ⟨rfl, by have := HL.out; omega⟩, ⟨blk_step K.out (fun b hb => ?_)⟩, ⟨KS.out.far NE.out.symm _⟩, ⟨below_set C.out G6.out⟩⟩
        by_cases e : b = i
        ·rw [if_pos e, if_pos (by omega), e, HO.out.1, HO.out.2]
        ·rw [if_neg e]
         by_cases h2 : b < i
         ·rw [if_pos h2, if_pos (by omega)]
         ·rw [if_neg h2, if_neg (by omega)]
      | zero =>
       have t1 : decide (L < (m0 : Int)) = false := decide_eq_false (by have := HL.out; omega)
       have hos := ord_many HX.out (sa := sa) (by rw [HM0.out]; exact S7.out)
       obtain ⟨U, hU⟩ : ∃ U, sa.map (fun i => (T0 n ls).getD i 0) = U := ⟨_, rfl⟩
       have hsl : U.length = m0 := by rw [← hU, List.length_map, S7.out.p.len]
       have K9 := Aside0.mk (show Blk wr go .i64 3 (iN U) from by
        rw [iN_tab, hsl]
        refine (congrArg (Blk _ go .i64 3) (tabn_congr (fun b hb => ?_))).mp K.out
        rw [if_pos (by have := HL.out; omega), ← hU, map_getD _ _ _ (by rw [S7.out.p.len]; exact hb)])
       rw [hU] at hos
       have HOS := Aside0.mk hos
       have HSL := Aside0.mk hsl
       have C9 := Aside0.mk (below_step B5.out C.out)
       have I9 := Aside0.mk (I5.out.below C.out)
       have CK := Aside0.mk (show Kd.C (Kd.int .i64) wr (some ⟨go, 0, none⟩) m0 (iN U) from by
        have h := blk_C K9.out (by rw [iN_len, hsl]; have := HN.out.nb; have := HNM.out; omega)
        rw [iN_len, hsl] at h; exact h)
       clear hsl hos hU HL K C K9 KS
       go_wp2_with (first
        | (go_at_call 28; with_reducible refine (induce_at gx A c0 gl gz n m s ls _ (some ⟨go, 0, none⟩) m0 m0 U HSL.out I9.out HX.out HN.out.sm CK.out HOS.out.1).mono ?_; rintro e w8 ⟨g8, rfl, hG, hK, hB⟩; have K8 := Aside0.mk (And.intro hG (And.intro hK hB)); clear hG hK hB))
       go_ret
       exact HRET.out U g8 wr w8 HSL.out HOS.out.1 HOS.out.2 C9.out K8.out.1 K8.out.2.1 K8.out.2.2
end Go.Proofs.Ytfmgoealbaihjaa.Hd
/- suffix: quick, walked by hand. -/
namespace Go.Proofs.Ytfmgoealbaihjaa.Sais
/-- A text's bytes, with an end that is less than all. -/
def txt (x : List Nat) (i : Nat) : Nat := if i < x.length then x.getD i 0 + 1 else 0
end Go.Proofs.Ytfmgoealbaihjaa.Sais
namespace Go.Proofs.Ytfmgoealbaihjaa.Hd
open Go Go.RowKit Go.Proofs.YtfmgoealbaihjaaW.PrintWords Go.Proofs.YtfmgoealbaihjaaW.PrintLast Go.Proofs.YtfmgoealbaihjaaW.PrintMore Go.Proofs.Ytfmgoealbaihjaa.Hw Go.Proofs.Ytfmgoealbaihjaa.Com Go.Proofs.Ytfmgoealbaihjaa.Cn Go.Proofs.Ytfmgoealbaihjaa.P Go.Proofs.Ytfmgoealbaihjaa.Sais
attribute [local go_sem] max2_int min2_int max_two min_two max_three min_three max_four min_four
theorem num_txt (x : List Nat) (h : ∀ c ∈ x, c < 256) (hl : x.length ≤ 1073741824) : Num (x.length + 1) 257 (txt x) := by
 refine ⟨by omega, by simp [txt], fun i hi => ?_, fun i hi => ?_, by omega, by omega⟩
 ·unfold txt; rw [if_pos (by omega)]; omega
 ·unfold txt
  split
  ·rename_i h1
   have := h (x.getD i 0) (by rw [List.getD_eq_getElem?_getD, List.getElem?_eq_getElem h1]; exact List.getElem_mem _)
   omega
  ·omega
theorem cut1 {o : Oper} {a : Act} {W : World} {x : Operand} {A : Option Addr} {n c : Nat} (ho : o.op = .slice 22 x (some (.const (.int .i64 1))) none none) (hx : a.eval x = .slice A n c) (hn : 1 ≤ n) :
  (execOp a.eval o).run Try.prog W = .ok (.value (.slice (if c = 1 then A else A.map (·.add (1 * 1))) (n - 1) (c - 1))) W := by
 obtain ⟨i, hi, _, hs, _⟩ := info_parts info3
 have h := cut_from 22 3 .i64 Try.underlying22 hi 1 hs A n c 1 (by omega) (by omega) W
 have e : (1 : Int).toNat = 1 := rfl
 rw [e] at h
 have h2 : (Instr.sliceAt 22 (.slice A n c) (some (.int .i64 1)) none none).run Try.prog W = .ok (.slice (if c = 1 then A else A.map (·.add (1 * 1))) (n - 1) (c - 1)) W := by
  simp [Instr.sliceAt, h]
 have h3 : a.eval (.const (.int .i64 1)) = .int .i64 1 := rfl
 simp [execOp, ho, hx, h2, h3]
set_option maxHeartbeats 8000000 in
set_option maxRecDepth 100000 in
theorem quick_ok (x : ByteArray) (w : World) (hx : x.size ≤ 1073741824) : Calls Try.prog 17 #[.string x] w fun e w' => ∃ (v : Value) (sa : List Nat), e = .returned v ∧ Kd.Q (Kd.int .i64) 3 w' w.heap.size (fun _ => True) v (iN (sa.drop 1)) ∧ IsSA (x.size + 1) (txt (nb x)) sa ∧ Below w.heap.size w w' := by
 have HX := Aside0.mk hx
 obtain ⟨n, hn⟩ : ∃ n, x.size + 1 = n := ⟨_, rfl⟩
 have e0 : wrap64 ((x.size : Int) + 1) = (n : Int) := by rw [w64 (by omega) (by omega)]; omega
 have HN := Aside0.mk hn
 rw [hn]
 clear hx hn
 go_enter Try.func17, Try.ntmps17
 go_wp2_with (first
  | ((with_reducible refine gate_dst (N := 8) rfl ?_); refine make_blk rfl rfl n (congrArg (Value.int .i64) e0) (congrArg (Value.int .i64) e0) Try.underlying22 .i64 info3 (by decide) (by have := HX.out; have := HN.out; omega) ?_; intro g w2 G2 B2 C2))
 have B2' := Aside0.mk (show Blk w2 g .i64 3 (tabn n (fun j => if j < 0 then (txt (nb x) j : Int) else 0)) from by have := B2.out; rw [tabn_zero] at this; exact this)
 clear B2 e0
 go_loopg [11] x.size (fun q v11 w' => ∃ (L : Int) (i : Nat), v11 = .int .i64 L ∧ Aside0 (L = (i : Int) ∧ i + q = x.size) ∧ Aside0 (Blk w' g .i64 3 (tabn n (fun j => if j < i then (txt (nb x) j : Int) else 0))) ∧ Aside0 (Below w.heap.size w w'))
 case atStart => exact ⟨0, 0, rfl, ⟨rfl, by omega⟩, B2', C2⟩
 case round =>
  clear B2' C2
  obtain ⟨L, i, rfl, HL, B, C⟩ := hrel
  cases gk with
  | succ q =>
   obtain rfl : L = (i : Int) := HL.out.1
   have hin : i < x.size := by have := HL.out; omega
   have t1 : decide ((i : Int) < (x.size : Int)) = true := decide_eq_true (by omega)
   have p1 : ((i : Int) < (x.size : Int)) = True := eq_true (by omega)
   have p2 : (i < x.size) = True := eq_true hin
   have p3 : ((i : Int) < (n : Int)) = True := eq_true (by have := HN.out; omega)
   have p4 : (i < n) = True := eq_true (by have := HN.out; omega)
   have e1 : wrap64 ((i : Int) + 1) = ((i + 1 : Nat) : Int) := by have := HX.out; rw [w64 (by omega) (by omega)]; omega
   have kf := B.out.free i
   have kg := B.out.cell i (by rw [tabn_length]; have := HN.out; omega)
   have hb := bt_nb x i
   have HIN := Aside0.mk hin
   clear hin
   go_wp2
   go_roundg q
   case measure => omega
   case rel =>
    refine ⟨(i : Int) + 1, i + 1, rfl, ⟨by omega, by have := HL.out; omega⟩, ⟨?_⟩, ⟨below_set C.out G2.out⟩⟩
    have hxi : (x[i]'(HIN.out)).toNat = (nb x).getD i 0 := by
     unfold nb
     rw [List.getD_eq_getElem?_getD, List.getElem?_map, List.getElem?_eq_getElem (show i < x.data.toList.length by have := HIN.out; simpa using this)]
     rfl
    have hlt := nb_lt x ((nb x).getD i 0) (by rw [List.getD_eq_getElem?_getD, List.getElem?_eq_getElem (by rw [nb_length]; exact HIN.out)]; exact List.getElem_mem _)
    rw [hxi]
    refine blk_step B.out (fun j hj => ?_)
    by_cases e : j = i
    ·rw [if_pos e, if_pos (by omega), e]
     unfold txt
     rw [if_pos (by rw [nb_length]; exact HIN.out), w64 (x := (((nb x).getD i 0 : Nat) : Int)) (by omega) (by omega), w64 (by omega) (by omega)]
     omega
    ·rw [if_neg e]
     by_cases h2 : j < i
     ·rw [if_pos h2, if_pos (by omega)]
     ·rw [if_neg h2, if_neg (by omega)]
  | zero =>
   have t1 : decide (L < (x.size : Int)) = false := decide_eq_false (by have := HL.out; omega)
   have K4 := Aside0.mk (show Blk wr g .i64 3 (tabn n (fun j => (txt (nb x) j : Int))) from by
    refine (congrArg (Blk _ g .i64 3) (tabn_congr (fun j hj => ?_))).mp B.out
    by_cases h2 : j < i
    ·rw [if_pos h2]
    ·rw [if_neg h2]
     unfold txt
     rw [nb_length, if_neg (by have := HL.out; omega)]; rfl)
   have CK := Aside0.mk (show Kd.C (Kd.int .i64) wr (some ⟨g, 0, none⟩) n (tabn n (fun j => (txt (nb x) j : Int))) from by
    have h := blk_C K4.out (by rw [tabn_length]; have := HX.out; have := HN.out; omega)
    rw [tabn_length] at h; exact h)
   have hnum := num_txt (nb x) (nb_lt x) (by rw [nb_length]; exact HX.out)
   rw [nb_length, HN.out] at hnum
   have HNUM := Aside0.mk hnum
   have hind := induced_ok n n (Nat.le_refl n)
   unfold IndOk at hind
   have hq : Calls Try.prog 20 #[.slice (some ⟨g, 0, none⟩) n n, .int .i64 257] wr fun e w' => ∃ (g c : Nat) (sa : List Nat), e = .returned (.slice (some ⟨g, 0, none⟩) n c) ∧ c = n ∧ wr.heap.size ≤ g ∧ Blk w' g .i64 3 (iN sa) ∧ IsSA n (txt (nb x)) sa ∧ Below wr.heap.size wr w' := hind 257 (txt (nb x)) (some ⟨g, 0, none⟩) n wr hnum CK.out
   have HIND := Aside0.mk hq
   clear hind hnum HL B hq
   go_wp2_with (first
    | (go_at_call 20; with_reducible refine HIND.out.mono ?_; rintro e w3 ⟨g3, c3, sa, rfl, rfl, hG, hK, hS, hB⟩; have G3 := Aside0.mk (Nat.le_trans C.out.size hG); have K3 := Aside0.mk hK; have S3 := Aside0.mk hS; have B3 := Aside0.mk (below_step C.out hB); clear hG hK hS hB)
    | ((with_reducible refine gate_dst (N := 25) rfl ?_); refine val_event rfl (cut1 rfl rfl (by have := HN.out; omega)) ?_; obtain ⟨v25, hv25⟩ : ∃ v, (Value.slice (if c3 = 1 then some ⟨g3, 0, none⟩ else (some (⟨g3, 0, none⟩ : Addr)).map (·.add (1 * 1))) (c3 - 1) (c3 - 1)) = v := ⟨_, rfl⟩; rw [hv25]; have HV := Aside0.mk hv25; clear hv25))
   go_ret
   have hl : (iN sa).length = c3 := by rw [iN_len, S3.out.p.len]
   have hR := K3.out.R G3.out (by rw [hl]; have := HX.out; have := HN.out; simp [maxLen]; omega) (fun _ => True) trivial
   rw [hl] at hR
   have hQ := Kd.Q_drop (Kd.Q_of_R hR) (k := 1) (by rw [hl]; have := HN.out; omega)
   have e : iN (sa.drop 1) = (iN sa).drop 1 := by simp [iN, List.map_drop]
   rw [← e] at hQ
   rw [← HV.out]
   exact ⟨_, sa, rfl, hQ, S3.out, B3.out⟩
end Go.Proofs.Ytfmgoealbaihjaa.Hd
