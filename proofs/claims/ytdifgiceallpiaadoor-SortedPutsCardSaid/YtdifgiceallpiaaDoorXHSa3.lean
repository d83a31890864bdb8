/- suffix: induce, walked by hand. -/
import Derived.Test.YtdifgiceallpiaaDoorXHSa2
set_option linter.unusedVariables false
set_option linter.unusedSimpArgs false
set_option linter.unusedSectionVars false
section
namespace Go.Proofs.YtdifgiceallpiaaDoor.Hd
open Go Go.RowKit YtdifgiceallpiaaDoorW.PrintWords YtdifgiceallpiaaDoorW.PrintLast YtdifgiceallpiaaDoorW.PrintMore YtdifgiceallpiaaDoor.Hw YtdifgiceallpiaaDoor.Com YtdifgiceallpiaaDoor.Cn YtdifgiceallpiaaDoor.P YtdifgiceallpiaaDoor.Sais
attribute [local go_sem] za9 za8 zbi zbj za0 za1 zba zbb
structure I2 (w : World) (g ga n m : Nat) (fo fa : Nat → Int) (W : World) : Prop where
 o : Blk W g .i64 3 (tabn n fo)
 a : Blk W ga .i64 3 (tabn m fa)
 ne : g ≠ ga
 lo : w.heap.size ≤ g
 la : w.heap.size ≤ ga
 bl : Below w.heap.size w W
section
variable {w W : World} {g ga n m : Nat} {fo fo' fa fa' : Nat → Int}
theorem I2.drew (h : I2 w g ga n m fo fa W) : I2 w g ga n m fo fa W.drew := ⟨h.o, h.a, h.ne, h.lo, h.la, zbl h.bl⟩
theorem I2.drewN (h : I2 w g ga n m fo fa W) (k : Nat) : I2 w g ga n m fo fa (W.drewN k) := ⟨h.o, h.a, h.ne, h.lo, h.la, zab h.bl k⟩
theorem I2.co (h : I2 w g ga n m fo fa W) {i : Nat} (hi : i < n) : W.cell? ⟨g, i, none⟩ = some (.int .i64 (fo i)) := by
 have := h.o.cell i (by rw [za2]; exact hi)
 rw [zbr hi] at this
 exact this
theorem I2.ca (h : I2 w g ga n m fo fa W) {i : Nat} (hi : i < m) : W.cell? ⟨ga, i, none⟩ = some (.int .i64 (fa i)) := by
 have := h.a.cell i (by rw [za2]; exact hi)
 rw [zbr hi] at this
 exact this
theorem I2.seto (h : I2 w g ga n m fo fa W) (i : Nat) (v : Int) (hf : ∀ j, j < n → (if j = i then v else fo j) = fo' j) : I2 w g ga n m fo' fa (W.setCell ⟨g, i, none⟩ (.int .i64 v)) :=
 ⟨zb7 h.o hf, h.a.far h.ne.symm _, h.ne, h.lo, h.la, zat h.bl h.lo⟩
theorem I2.seta (h : I2 w g ga n m fo fa W) (i : Nat) (v : Int) (hf : ∀ j, j < m → (if j = i then v else fa j) = fa' j) : I2 w g ga n m fo fa' (W.setCell ⟨ga, i, none⟩ (.int .i64 v)) :=
 ⟨h.o.far h.ne _, zb7 h.a hf, h.ne, h.lo, h.la, zat h.bl h.la⟩
theorem I2.congr (h : I2 w g ga n m fo fa W) (hf : ∀ j, j < n → fo j = fo' j) (ha : ∀ j, j < m → fa j = fa' j) : I2 w g ga n m fo' fa' W :=
 ⟨(congrArg (Blk _ g .i64 3) (zbd hf)).mp h.o, (congrArg (Blk _ ga .i64 3) (zbd ha)).mp h.a, h.ne, h.lo, h.la, h.bl⟩
theorem I2.next {W1 : World} {gb : Nat} (h : I2 w g ga n m fo fa W) (hB : Below W.heap.size W W1) (hb : Blk W1 gb .i64 3 (tabn m fa')) (hl : W.heap.size ≤ gb) : I2 w g gb n m fo fa' W1 :=
 ⟨h.o.below hB, hb, by have := h.o.lt; omega, h.lo, Nat.le_trans h.bl.size hl, zaf h.bl hB⟩
end
def iN (T : List Nat) : List Int := T.map (fun x : Nat => (x : Int))
theorem zb1 (T : List Nat) : (iN T).length = T.length := by simp [iN]
theorem iN_getD (T : List Nat) (i : Nat) : (iN T).getD i 0 = ((T.getD i 0 : Nat) : Int) := by
 unfold iN
 rw [List.getD_eq_getElem?_getD, List.getD_eq_getElem?_getD, List.getElem?_map]
 cases T[i]? <;> rfl
section
variable (gx : Nat) (A : Option Addr) (c0 gl gz n m : Nat) (s : Nat → Nat) (ls : Nat → Bool) (w : World)
set_option maxHeartbeats 16000000 in
set_option maxRecDepth 100000 in
theorem induce_ok (AT : Option Addr) (ct : Nat) (T : List Nat) (h : Ind w gx A c0 gl gz n m s ls) (hx : Txt n s ls) (hsm : ∀ i, i < n → s i < m) (hTC : Kd.C (Kd.int .i64) w AT T.length (iN T)) (hT : Turns n ls T) :
  Calls Tryd.prog 82 #[.pointer (some ⟨gx, 0, none⟩), .slice AT T.length ct] w fun e w' => ∃ g : Nat, e = .returned (.slice (some ⟨g, 0, none⟩) n n) ∧ w.heap.size ≤ g ∧ Blk w' g .i64 3 (tabn n (AS n s ls T)) ∧ Below w.heap.size w w' := by
 have hlen : T.length ≤ n := by
  have := List.Nodup.length_le_of_subset hT.nd (l₂ := List.range n) (fun x hx => List.mem_range.2 (hT.lt x hx))
  rw [List.length_range] at this; exact this
 have hpos : 0 < T.length := List.length_pos_of_mem (Turns.last hx hT)
 obtain ⟨adT, hadT, hT0⟩ := Kd.at_int hTC 0 (by omega) (by omega)
 subst hadT
 have HTC := zaa.mk (show ∀ i, i < T.length → w.cell? (adT.add i) = some (.int .i64 ((T.getD i 0 : Nat) : Int)) from fun i hi => by
  obtain ⟨ad2, h1, h2⟩ := Kd.at_int hTC (i : Int) (by omega) (by omega)
  cases h1
  rw [Int.toNat_natCast, rd_nat, iN_getD] at h2
  exact h2)
 obtain ⟨ad, hA, _⟩ := h.cs (show 0 < n by have := hx.n2; omega)
 subst hA
 have HC := zaa.mk (show ∀ i, i < n → w.cell? (ad.add i) = some (.int .i64 (s i : Int)) from fun i hi => by
  obtain ⟨ad2, h1, h2⟩ := h.cs hi
  cases h1
  exact h2)
 have H := zaa.mk h
 have HX := zaa.mk hx
 have HT := zaa.mk hT
 have HM := zaa.mk hsm
 have HN := zaa.mk (And.intro hlen (And.intro hpos (And.intro h.n1 h.m1)))
 have k0 := h.k0
 clear h hx hT hsm hTC hlen hpos hT0
 go_enter Tryd.func82, Tryd.ntmps82
 go_wp2_with (first
  | ((with_reducible refine zay (N := 21) rfl ?_); refine zce rfl rfl n rfl rfl Tryd.underlying29 .i64 info3 (by decide) (by have := HN.out; omega) ?_; intro g w2 G2 B2 C2))
 have B2' := zaa.mk (show Blk w2 g .i64 3 (tabn n (fun j => if j < 0 then (-1 : Int) else 0)) from by have := B2.out; rw [zb8] at this; exact this)
 clear B2 k0
 go_loopg [24] n (fun q v24 w' => ∃ (L : Int) (i : Nat), v24 = .int .i64 L ∧ zaa (L = (i : Int) ∧ i + q = n) ∧ zaa (Blk w' g .i64 3 (tabn n (fun j => if j < i then (-1 : Int) else 0))) ∧ zaa (Below w.heap.size w w'))
 case atStart => exact ⟨0, 0, rfl, ⟨rfl, by omega⟩, B2', C2⟩
 case round =>
  clear B2' C2
  obtain ⟨L, i, rfl, HL, B, C⟩ := hrel
  cases gk with
  | succ q =>
   have t1 : decide (L < (n : Int)) = true := decide_eq_true (by have := HL.out; omega)
   obtain rfl : L = (i : Int) := HL.out.1
   have hin : i < n := by have := HL.out; omega
   have p2 : ((i : Int) < (n : Int)) = True := eq_true (by omega)
   have p3 : (i < n) = True := eq_true hin
   have hff := B.out.free i
   have hcc := B.out.cell i (by rw [za2]; exact hin)
   clear hin
   go_wp2
   go_roundg q
   case measure => omega
   case rel =>
    refine ⟨wrap64 ((i : Int) + 1), i + 1, rfl, ⟨?_, by have := HL.out; omega⟩, ⟨?_⟩, ⟨zat C.out G2.out⟩⟩
    ·have := HL.out
     have := HN.out
     rw [w64 (by omega) (by omega)]; omega
    ·refine zb7 B.out (fun j hj => ?_)
     by_cases e : j = i
     ·rw [if_pos e, if_pos (by omega)]
     ·rw [if_neg e]
      by_cases h2 : j < i
      ·rw [if_pos h2, if_pos (by omega)]
      ·rw [if_neg h2, if_neg (by omega)]
  | zero =>
   have t1 : decide (L < (n : Int)) = false := decide_eq_false (by have := HL.out; omega)
   have B4 := zaa.mk (show Blk wr g .i64 3 (tabn n (place s (T.drop T.length) (fun _ => -1, tl n s)).1) from by
    have := B.out
    rw [zbd (g := (place s (T.drop T.length) (fun _ => -1, tl n s)).1) (fun j hj => by rw [if_pos (by have := HL.out; omega), List.drop_length]; rfl)] at this
    exact this)
   have C4 := zaa.mk (H.out.below C.out)
   clear B HL
   go_wp2_with (first
    | (go_at_call 84; refine (tails_ok gx (some ad) c0 gl gz n m s ls _ C4.out).mono ?_; rintro e w3 ⟨ga, rfl, hG, hB, hC⟩; have I0 := zaa.mk (show I2 w g ga n m (place s (T.drop T.length) (fun _ => -1, tl n s)).1 (fun c => (((place s (T.drop T.length) (fun _ => -1, tl n s)).2 c : Nat) : Int)) w3 from ⟨B4.out.below hC, by rw [List.drop_length]; exact hB, by have := B4.out.lt; omega, G2.out, Nat.le_trans C.out.size hG, zaf C.out hC⟩); clear hG hB hC))
   clear B4 C4 C t1
   have e1 : wrap64 ((T.length : Int) - 1) = (T.length : Int) - 1 := w64 (by have := HN.out; omega) (by have := HN.out; omega)
   go_loopg [8] T.length (fun q v8 w' => ∃ L : Int, v8 = .int .i64 L ∧ zaa (L = (q : Int) - 1 ∧ q ≤ T.length) ∧ zaa (I2 w g ga n m (place s (T.drop q) (fun _ => -1, tl n s)).1 (fun c => (((place s (T.drop q) (fun _ => -1, tl n s)).2 c : Nat) : Int)) w'))
   case atStart => exact ⟨(T.length : Int) - 1, by simp only [e1], ⟨rfl, Nat.le_refl _⟩, I0⟩
   case round =>
    clear I0 e1
    obtain ⟨L, rfl, HL, I⟩ := hrel
    cases gk with
    | succ q =>
     obtain rfl : L = (q : Int) := by have := HL.out; omega
     have hq : q < T.length := by have := HL.out; omega
     have t0 : decide (0 ≤ (q : Int)) = true := decide_eq_true (by omega)
     have e2 : wrap64 ((q : Int) - 1) = (q : Int) - 1 := by have := HN.out; exact w64 (by omega) (by omega)
     have p1 : ((q : Int) < (T.length : Int)) = True := eq_true (by omega)
     have p2 : (q < T.length) = True := eq_true hq
     have k1 := (H.out.below I.out.bl).k0
     have hc := HTC.out q hq
     obtain ⟨x, hx⟩ : ∃ x, T.getD q 0 = x := ⟨_, rfl⟩
     rw [hx] at hc
     have k2 := (I.out.bl.cell (World.block_lt_of_cell? w _ hc)).trans hc
     have hTd : T.drop q = x :: T.drop (q + 1) := by
      rw [List.drop_eq_getElem_cons hq, ← hx, List.getD_eq_getElem?_getD, List.getElem?_eq_getElem hq]; rfl
     have hxT : x ∈ T := by rw [← hx, List.getD_eq_getElem?_getD, List.getElem?_eq_getElem hq]; exact List.getElem_mem hq
     have hxn := HT.out.lt x hxT
     have hd := HC.out x hxn
     have k3 := (I.out.bl.cell (World.block_lt_of_cell? w _ hd)).trans hd
     have hcm := HM.out x hxn
     have hnd : (x :: T.drop (q + 1)).Nodup := by rw [← hTd]; exact HT.out.nd.sublist (List.drop_sublist _ _)
     have hlt : ∀ y ∈ x :: T.drop (q + 1), y < n := by rw [← hTd]; exact fun y hy => HT.out.lt y (List.mem_of_mem_drop hy)
     have hroom := place_room (n := n) (s := s) hnd hlt
     obtain ⟨U, hU⟩ : ∃ U, T.drop (q + 1) = U := ⟨_, rfl⟩
     rw [hU] at hTd hroom I
     obtain ⟨c, hcc⟩ : ∃ c, s x = c := ⟨_, rfl⟩
     rw [hcc] at k3 hcm hroom
     obtain ⟨ac, hac⟩ : ∃ ac, (place s U (fun _ => -1, tl n s)).2 c - 1 = ac := ⟨_, rfl⟩
     have p3 : ((x : Int) < (n : Int)) = True := eq_true (by omega)
     have p4 : (x < n) = True := eq_true hxn
     have p5 : ((c : Int) < (m : Int)) = True := eq_true (by omega)
     have p6 : (c < m) = True := eq_true hcm
     have HI := zaa.mk (And.intro hx (And.intro hTd (And.intro hcc (And.intro hac hroom))))
     clear hc hd hx hTd hxT hxn hnd hlt hU hcc hac
     go_wp2
     go_quiet (fail)
     obtain ⟨w4, hw4⟩ : ∃ w4, wr.drewN nq = w4 := ⟨_, rfl⟩
     have I4 := zaa.mk (I.out.drewN nq)
     rw [hw4] at I4
     rw [hw4]
     clear k1 k2 k3 hw4 I
     have k5 := I4.out.ca hcm
     have kf := I4.out.a.free c
     have HCM := zaa.mk hcm
     clear hcm
     have EW := zaa.mk (show wrap64 ((((place s U (fun _ => -1, tl n s)).2 c : Nat) : Int) - 1) = (ac : Int) from by
      have := HI.out
      have := HN.out
      rw [w64 (by omega) (by omega)]; omega)
     go_wp2
     have I3 := zaa.mk (I4.out.seta (fa' := fun d => if d = c then (ac : Int) else (((place s U (fun _ => -1, tl n s)).2 d : Nat) : Int)) c (ac : Int) (fun j _ => rfl))
     rw [EW.out]
     obtain ⟨w5, hw5⟩ : ∃ w5, w4.setCell ⟨ga, c, none⟩ (.int .i64 (ac : Int)) = w5 := ⟨_, rfl⟩
     rw [hw5] at I3
     rw [hw5]
     clear hw5 k5 kf EW I4
     have HAC := zaa.mk (show ac < n from by have := HI.out; omega)
     have k3 : w5.cell? ⟨ga, c, none⟩ = some (.int .i64 (ac : Int)) := by have := I3.out.ca HCM.out; rw [if_pos rfl] at this; exact this
     have hc := HTC.out q (of_eq_true p2)
     have k4 : w5.cell? (adT.add q) = some (.int .i64 (x : Int)) := by
      have h1 := (I3.out.bl.cell (World.block_lt_of_cell? w _ hc)).trans hc
      rw [HI.out.1] at h1
      exact h1
     have p7 : ((ac : Int) < (n : Int)) = True := eq_true (by have := HAC.out; omega)
     have p8 : (ac < n) = True := eq_true HAC.out
     clear hc
     refine zcr (n := 11) (S := fun w' => w'.cell? ⟨ga, c, none⟩ = some (.int .i64 (ac : Int)) ∧ w'.cell? (adT.add q) = some (.int .i64 (x : Int))) (ds := [10]) #[false, false, false, false, false, false, false, false, false, false, false] (by kernel_rfl) rfl rfl ⟨k3, k4⟩ (fun hHeld => ?_)
     refine pure_ (i := 0) (N := some 56) (v := ?_) (a' := ?_) #[true, false, false, false, false, false, false, false, false, false, false] rfl rfl (by kernel_rfl) (fun _ _ _ h => h) (Or.inl ⟨by rfl, ?_⟩) ?_ ?_
     rotate_left
     ·intro w'
      go_simp
      with_reducible rfl
     rotate_left
     ·simp only [Act.put, sAt, sZr, sSc, i64_w, i32_w]
      rfl
     refine pure_ (i := 1) (N := some 57) (v := ?_) (a' := ?_) #[true, true, false, false, false, false, false, false, false, false, false] rfl rfl (by kernel_rfl) (fun _ _ _ h => h) (Or.inl ⟨by rfl, ?_⟩) ?_ ?_
     rotate_left
     ·intro w'
      go_simp
      with_reducible rfl
     rotate_left
     ·simp only [Act.put, sAt, sZr, sSc, i64_w, i32_w]
      rfl
     refine pure_ (i := 2) (N := some 58) (v := ?_) (a' := ?_) #[true, true, true, false, false, false, false, false, false, false, false] rfl rfl (by kernel_rfl) (fun _ _ _ h => h) (Or.inl ⟨by rfl, ?_⟩) ?_ ?_
     rotate_left
     ·intro w'
      go_simp
      with_reducible rfl
     rotate_left
     ·simp only [Act.put, sAt, sZr, sSc, i64_w, i32_w]
      rfl
     refine pure_ (i := 3) (N := some 59) (v := ?_) (a' := ?_) #[true, true, true, true, false, false, false, false, false, false, false] rfl rfl (by kernel_rfl) (fun _ _ _ h => h) (Or.inl ⟨by rfl, ?_⟩) ?_ ?_
     rotate_left
     ·intro w'
      go_simp
      with_reducible rfl
     rotate_left
     ·simp only [Act.put, sAt, sZr, sSc, i64_w, i32_w]
      rfl
     refine pure_ (i := 5) (N := some 61) (v := ?_) (a' := ?_) #[true, true, true, true, false, true, false, false, false, false, false] rfl rfl (by kernel_rfl) (fun _ _ _ h => h) (Or.inl ⟨by rfl, ?_⟩) ?_ ?_
     rotate_left
     ·intro w'
      go_simp
      with_reducible rfl
     rotate_left
     ·simp only [Act.put, sAt, sZr, sSc, i64_w, i32_w]
      rfl
     refine pure_ (i := 6) (N := some 62) (v := ?_) (a' := ?_) #[true, true, true, true, false, true, true, false, false, false, false] rfl rfl (by kernel_rfl) (fun _ _ _ h => h) (Or.inl ⟨by rfl, ?_⟩) ?_ ?_
     rotate_left
     ·intro w'
      go_simp
      with_reducible rfl
     rotate_left
     ·simp only [Act.put, sAt, sZr, sSc, i64_w, i32_w]
      rfl
     refine pure_ (i := 7) (N := some 63) (v := ?_) (a' := ?_) #[true, true, true, true, false, true, true, true, false, false, false] rfl rfl (by kernel_rfl) (fun _ _ _ h => h) (Or.inl ⟨by rfl, ?_⟩) ?_ ?_
     rotate_left
     ·intro w'
      go_simp
      with_reducible rfl
     rotate_left
     ·simp only [Act.put, sAt, sZr, sSc, i64_w, i32_w]
      rfl
     refine take_ (i := 4) (N := some 60) (v := ?_) (a' := ?_) #[true, true, true, true, true, true, true, true, false, false, false] rfl rfl (by kernel_rfl) (fun _ _ _ h => h) (Or.inl ⟨by rfl, ?_⟩) hHeld ?_ ?_
     rotate_left
     ·rintro w' ⟨s0, s1⟩
      go_simp
      with_reducible rfl
     rotate_left
     ·simp only [Act.put, sAt, sZr, sSc, i64_w, i32_w]
      rfl
     refine take_ (i := 8) (N := some 64) (v := ?_) (a' := ?_) #[true, true, true, true, true, true, true, true, true, false, false] rfl rfl (by kernel_rfl) (fun _ _ _ h => h) (Or.inl ⟨by rfl, ?_⟩) hHeld ?_ ?_
     rotate_left
     ·rintro w' ⟨s0, s1⟩
      go_simp
      with_reducible rfl
     rotate_left
     ·simp only [Act.put, sAt, sZr, sSc, i64_w, i32_w]
      rfl
     refine pure_ (i := 9) (N := some 65) (v := ?_) (a' := ?_) #[true, true, true, true, true, true, true, true, true, true, false] rfl rfl (by kernel_rfl) (fun _ _ _ h => h) (Or.inl ⟨by rfl, ?_⟩) ?_ ?_
     rotate_left
     ·intro w'
      go_simp
      with_reducible rfl
     rotate_left
     ·simp only [Act.put, sAt, sZr, sSc, i64_w, i32_w]
      rfl
     refine last_ (i := 10) (N := none) #[true, true, true, true, true, true, true, true, true, true, true] rfl rfl (by kernel_rfl) (by decide) (fun K hK => ?_)
     have hfz := I3.out.drew.o.free ac
     have hcz := I3.out.drew.co HAC.out
     refine skip_ (w1 := ?_) (by rfl) rfl ?_ ?_
     rotate_left
     ·go_simp
      rfl
     refine hK.out _ _ ?_
     clear hK K
     refine done_ (by kernel_rfl) ?_
     clear hHeld k3 k4 hfz hcz
     go_wp2
     go_roundg q
     case measure => omega
     case rel =>
      refine ⟨(q : Int) - 1, by simp only [e2], ⟨rfl, by have := HL.out; omega⟩, ⟨?_⟩⟩
      obtain ⟨h1, h2, h3, h4, h5, h6⟩ := HI.out
      rw [h2]
      refine (I3.out.drew.seto (fo' := (place s (x :: U) (fun _ => -1, tl n s)).1) ac (x : Int) (fun j hj => ?_)).congr (fun _ _ => rfl) (fun d hd => ?_)
      ·show _ = upd (place s U (fun _ => -1, tl n s)).1 ((place s U (fun _ => -1, tl n s)).2 (s x) - 1) (x : Int) j
       rw [h3, h4]
       rfl
      ·show _ = ((upd (place s U (fun _ => -1, tl n s)).2 (s x) ((place s U (fun _ => -1, tl n s)).2 (s x) - 1) d : Nat) : Int)
       rw [h3, h4]
       unfold upd
       split <;> rfl
    | zero =>
     have t0 : decide (0 ≤ L) = false := decide_eq_false (by have := HL.out; omega)
     have IH := zaa.mk (H.out.below I.out.bl)
     clear HL
     go_wp2_with (first
      | (go_at_call 85; refine (heads_ok gx (some ad) c0 gl gz n m s ls _ IH.out).mono ?_; rintro e w3 ⟨gh, rfl, hG, hB, hC⟩; have J0 := zaa.mk (show I2 w g gh n m (pL n s ls T 0) (fun c => ((aL n s ls T 0 c : Nat) : Int)) w3 from I.out.next hC hB hG); clear hG hB hC))
     clear IH I t0
     go_loopg [70] n (fun q v70 w' => ∃ (L : Int) (p : Nat), v70 = .int .i64 L ∧ zaa (L = (p : Int) ∧ p + q = n) ∧ zaa (I2 w g gh n m (pL n s ls T p) (fun c => ((aL n s ls T p c : Nat) : Int)) w'))
     case atStart => exact ⟨0, 0, rfl, ⟨rfl, by omega⟩, J0⟩
     case round =>
      clear J0
      obtain ⟨L, p, rfl, HL, I⟩ := hrel
      cases gk with
      | succ q =>
       obtain rfl : L = (p : Int) := HL.out.1
       have hp : p < n := by have := HL.out; omega
       have t1 : decide ((p : Int) < (n : Int)) = true := decide_eq_true (by omega)
       have t2 : decide (p < n) = true := decide_eq_true hp
       have p2 : ((p : Int) < (n : Int)) = True := eq_true (by omega)
       have p3 : (p < n) = True := eq_true hp
       have kc := I.out.co hp
       have k1 := (H.out.below I.out.bl).k1
       have k0 := (H.out.below I.out.bl).k0
       have HP := zaa.mk hp
       have hfin : ∀ w', I2 w g gh n m (pL n s ls T (p + 1)) (fun c => ((aL n s ls T (p + 1) c : Nat) : Int)) w' → ∃ (L : Int) (p' : Nat), Value.int .i64 (wrap64 ((p : Int) + 1)) = .int .i64 L ∧ zaa (L = (p' : Int) ∧ p' + q = n) ∧ zaa (I2 w g gh n m (pL n s ls T p') (fun c => ((aL n s ls T p' c : Nat) : Int)) w') := by
        intro w' hI
        refine ⟨_, p + 1, rfl, ⟨?_, by have := HL.out; omega⟩, ⟨hI⟩⟩
        have := HL.out
        have := HN.out
        rw [w64 (by omega) (by omega)]; omega
       have HFIN := zaa.mk hfin
       clear hfin
       by_cases hv : pL n s ls T p p ≤ 0
       ·have hs := pL_skip HX.out HT.out hp (.inl hv)
        obtain ⟨v, hve⟩ : ∃ v, pL n s ls T p p = v := ⟨_, rfl⟩
        have hr := pL_range HX.out HT.out (Nat.le_of_lt hp) p
        rw [hve] at hv kc hr
        have e3 : wrap64 (v - 1) = v - 1 := w64 (by rcases hr with h | ⟨x, _, h⟩ <;> omega) (by omega)
        have t3 : decide (0 ≤ v - 1) = false := decide_eq_false (by omega)
        have t4 : decide (1 ≤ v) = false := decide_eq_false (by omega)
        have HS := zaa.mk hs
        clear hs hr hv hp hve
        go_wp2
        go_roundg q
        case measure => omega
        case rel => exact HFIN.out _ (by rw [HS.out.1, HS.out.2]; exact I.out)
       ·obtain ⟨k, hk⟩ : ∃ k : Nat, pL n s ls T p p = (k : Int) + 1 := ⟨(pL n s ls T p p - 1).toNat, by omega⟩
        obtain ⟨x, hxk⟩ : ∃ x, x = k + 1 := ⟨_, rfl⟩
        have hkx : pL n s ls T p p = (x : Int) := by rw [hk, hxk]; rfl
        have hkn : k < n := by
         rcases pL_range HX.out HT.out (Nat.le_of_lt hp) p with e | ⟨y, hy, e⟩
         ·omega
         ·omega
        rw [hkx] at kc
        have e3 : wrap64 ((x : Int) - 1) = (k : Int) := by have := HN.out; rw [w64 (by omega) (by omega)]; omega
        have t3 : decide (0 ≤ (k : Int)) = true := decide_eq_true (by omega)
        have p4 : ((k : Int) < (n : Int)) = True := eq_true (by omega)
        have p5 : (k < n) = True := eq_true hkn
        have kl := (H.out.below I.out.bl).cl hkn
        cases hl : ls k with
        | true =>
         have hs := pL_skip HX.out HT.out hp (.inr ⟨k, hk, hl⟩)
         rw [hl] at kl
         have HS := zaa.mk hs
         clear hs hv hp hk hxk hkx hkn hl
         go_wp2
         go_roundg q
         case measure => omega
         case rel => exact HFIN.out _ (by rw [HS.out.1, HS.out.2]; exact I.out)
        | false =>
         have hs := pL_yes HX.out HT.out hp hk hl
         rw [hl] at kl
         have hd := HC.out k hkn
         have k3 := (I.out.bl.cell (World.block_lt_of_cell? w _ hd)).trans hd
         have hcm := HM.out k hkn
         obtain ⟨c, hcc⟩ : ∃ c, s k = c := ⟨_, rfl⟩
         rw [hcc] at k3 hcm hs
         obtain ⟨ac, hac⟩ : ∃ ac, aL n s ls T p c = ac := ⟨_, rfl⟩
         have k4 := I.out.ca hcm
         rw [hac] at k4 hs
         have hacn := hs.2.1
         have p6 : ((c : Int) < (m : Int)) = True := eq_true (by omega)
         have p7 : (c < m) = True := eq_true hcm
         have p8 : ((ac : Int) < (n : Int)) = True := eq_true (by omega)
         have p9 : (ac < n) = True := eq_true hacn
         have kf := I.out.o.free ac
         have kg := I.out.co hacn
         have I5 := zaa.mk (I.out.seto (fo' := pL n s ls T (p + 1)) ac (k : Int) (fun j _ => by rw [hs.2.2.1]; rfl))
         have k5 := I5.out.ca hcm
         rw [hac] at k5
         have kf5 := I5.out.a.free c
         have EW := zaa.mk (show wrap64 ((ac : Int) + 1) = ((ac + 1 : Nat) : Int) from by have := HN.out; rw [w64 (by omega) (by omega)]; omega)
         have HS := zaa.mk (And.intro hs (And.intro hcc hac))
         clear hs hv hp hk hxk hkx hkn hl hd hcm hcc hac hacn
         go_wp2
         go_roundg q
         case measure => omega
         case rel =>
          rw [EW.out]
          refine HFIN.out _ (I5.out.seta c ((ac + 1 : Nat) : Int) (fun j _ => ?_))
          obtain ⟨⟨_, _, _, h4⟩, h5, h6⟩ := HS.out
          rw [h4 j]
          by_cases e : j = c
          ·rw [if_pos e, if_pos e, e, h6]
          ·rw [if_neg e, if_neg e]
      | zero =>
       have t1 : decide (L < (n : Int)) = false := decide_eq_false (by have := HL.out; omega)
       have IH := zaa.mk (H.out.below I.out.bl)
       have ep : p = n := by have := HL.out; omega
       rw [ep] at I
       clear HL ep
       go_wp2_with (first
        | (go_at_call 84; refine (tails_ok gx (some ad) c0 gl gz n m s ls _ IH.out).mono ?_; rintro e w3 ⟨gt, rfl, hG, hB, hC⟩; have J0 := zaa.mk (show I2 w g gt n m (pS n s ls T 0) (fun c => ((aS n s ls T 0 c : Nat) : Int)) w3 from (I.out.next hC hB hG).congr (fun j hj => (pS_zero hj).symm) (fun _ _ => rfl)); clear hG hB hC))
       clear IH I t1
       have e1 : wrap64 ((n : Int) - 1) = (n : Int) - 1 := w64 (by have := HN.out; omega) (by have := HN.out; omega)
       go_loopg [13] n (fun q v13 w' => ∃ L : Int, v13 = .int .i64 L ∧ zaa (L = (q : Int) - 1 ∧ q ≤ n) ∧ zaa (I2 w g gt n m (pS n s ls T (n - q)) (fun c => ((aS n s ls T (n - q) c : Nat) : Int)) w'))
       case atStart => exact ⟨(n : Int) - 1, by simp only [e1], ⟨rfl, Nat.le_refl _⟩, by rw [Nat.sub_self]; exact J0⟩
       case round =>
        clear J0 e1
        obtain ⟨L, rfl, HL, I⟩ := hrel
        cases gk with
        | zero =>
         have t0 : decide (0 ≤ L) = false := decide_eq_false (by have := HL.out; omega)
         have I5 := zaa.mk (show Blk wr g .i64 3 (tabn n (AS n s ls T)) from by
          have := I.out.o
          rw [Nat.sub_zero, pS_end] at this
          exact this)
         go_wp2
         go_ret
         exact ⟨g, rfl, I.out.lo, I5.out, I.out.bl⟩
        | succ q =>
         obtain rfl : L = (q : Int) := by have := HL.out; omega
         have hq : q < n := by have := HL.out; omega
         obtain ⟨p, hp⟩ : ∃ p, n - (q + 1) = p := ⟨_, rfl⟩
         have hpq : p + q + 1 = n := by omega
         have hpn : n - q = p + 1 := by omega
         rw [hp] at I
         have t0 : decide (0 ≤ (q : Int)) = true := decide_eq_true (by omega)
         have e2 : wrap64 ((q : Int) - 1) = (q : Int) - 1 := by have := HN.out; exact w64 (by omega) (by omega)
         have p2 : ((q : Int) < (n : Int)) = True := eq_true (by omega)
         have p3 : (q < n) = True := eq_true hq
         have kc := I.out.co hq
         have k1 := (H.out.below I.out.bl).k1
         have k0 := (H.out.below I.out.bl).k0
         have hfin : ∀ w', I2 w g gt n m (pS n s ls T (p + 1)) (fun c => ((aS n s ls T (p + 1) c : Nat) : Int)) w' → ∃ L : Int, Value.int .i64 (wrap64 ((q : Int) - 1)) = .int .i64 L ∧ zaa (L = (q : Int) - 1 ∧ q ≤ n) ∧ zaa (I2 w g gt n m (pS n s ls T (n - q)) (fun c => ((aS n s ls T (n - q) c : Nat) : Int)) w') := by
          intro w' hI
          exact ⟨(q : Int) - 1, by simp only [e2], ⟨rfl, by omega⟩, ⟨by rw [hpn]; exact hI⟩⟩
         have HFIN := zaa.mk hfin
         clear hfin hp hpn
         by_cases hv : pS n s ls T p q ≤ 0
         ·have hs := pS_skip HX.out HT.out hpq (.inl hv)
          obtain ⟨v, hve⟩ : ∃ v, pS n s ls T p q = v := ⟨_, rfl⟩
          have hr := pS_range HX.out HT.out (show p ≤ n by omega) q
          rw [hve] at hv kc hr
          have e3 : wrap64 (v - 1) = v - 1 := w64 (by rcases hr with h | ⟨x, _, h⟩ <;> omega) (by omega)
          have t3 : decide (0 ≤ v - 1) = false := decide_eq_false (by omega)
          have t4 : decide (1 ≤ v) = false := decide_eq_false (by omega)
          have HS := zaa.mk hs
          clear hs hr hv hq hve hpq
          go_wp2
          go_roundg q
          case measure => omega
          case rel => exact HFIN.out _ (by rw [HS.out.1, HS.out.2]; exact I.out)
         ·obtain ⟨k, hk⟩ : ∃ k : Nat, pS n s ls T p q = (k : Int) + 1 := ⟨(pS n s ls T p q - 1).toNat, by omega⟩
          obtain ⟨x, hxk⟩ : ∃ x, x = k + 1 := ⟨_, rfl⟩
          have hkx : pS n s ls T p q = (x : Int) := by rw [hk, hxk]; rfl
          have hkn : k < n := by
           rcases pS_range HX.out HT.out (show p ≤ n by omega) q with e | ⟨y, hy, e⟩
           ·omega
           ·omega
          rw [hkx] at kc
          have e3 : wrap64 ((x : Int) - 1) = (k : Int) := by have := HN.out; rw [w64 (by omega) (by omega)]; omega
          have t3 : decide (0 ≤ (k : Int)) = true := decide_eq_true (by omega)
          have p4 : ((k : Int) < (n : Int)) = True := eq_true (by omega)
          have p5 : (k < n) = True := eq_true hkn
          have kl := (H.out.below I.out.bl).cl hkn
          cases hl : ls k with
          | false =>
           have hs := pS_skip HX.out HT.out hpq (.inr ⟨k, hk, hl⟩)
           rw [hl] at kl
           have HS := zaa.mk hs
           clear hs hv hq hk hxk hkx hkn hl hpq
           go_wp2
           go_roundg q
           case measure => omega
           case rel => exact HFIN.out _ (by rw [HS.out.1, HS.out.2]; exact I.out)
          | true =>
           have hs := pS_yes HX.out HT.out hpq hk hl
           rw [hl] at kl
           have hd := HC.out k hkn
           have k3 := (I.out.bl.cell (World.block_lt_of_cell? w _ hd)).trans hd
           have hcm := HM.out k hkn
           obtain ⟨c, hcc⟩ : ∃ c, s k = c := ⟨_, rfl⟩
           rw [hcc] at k3 hcm hs
           obtain ⟨ad_, had⟩ : ∃ ad_, aS n s ls T p c = ad_ := ⟨_, rfl⟩
           have k4 := I.out.ca hcm
           rw [had] at k4 hs
           obtain ⟨ac, hac⟩ : ∃ ac, ad_ - 1 = ac := ⟨_, rfl⟩
           rw [hac] at hs
           have hacn : ac < n := by have := hs.2.1; have := hs.2.2.1; omega
           have p6 : ((c : Int) < (m : Int)) = True := eq_true (by omega)
           have p7 : (c < m) = True := eq_true hcm
           have p8 : ((ac : Int) < (n : Int)) = True := eq_true (by omega)
           have p9 : (ac < n) = True := eq_true hacn
           have e5 : wrap64 ((ad_ : Int) - 1) = (ac : Int) := by have := hs.2.1; have := hs.2.2.1; have := HN.out; rw [w64 (by omega) (by omega)]; omega
           have kf5 := I.out.a.free c
           have I5 := zaa.mk (I.out.seta (fa' := fun c => ((aS n s ls T (p + 1) c : Nat) : Int)) c (ac : Int) (fun j _ => by
            rw [hs.2.2.2.2 j]
            by_cases e : j = c
            ·rw [if_pos e, if_pos e, e, had, hac]
            ·rw [if_neg e, if_neg e]))
           have k5 := I5.out.ca hcm
           rw [hs.2.2.2.2 c, if_pos rfl, had, hac] at k5
           have kf := I5.out.o.free ac
           have kg := I5.out.co hacn
           have HS := zaa.mk (And.intro hs (And.intro hcc (And.intro had hac)))
           clear hs hv hq hk hxk hkx hkn hl hd hcm hcc hac had hacn hpq
           go_wp2
           go_roundg q
           case measure => omega
           case rel =>
            obtain ⟨⟨_, _, _, h3, _⟩, h5, h6, h7⟩ := HS.out
            refine HFIN.out _ (I5.out.seto (fo' := pS n s ls T (p + 1)) ac (k : Int) (fun j hj => ?_))
            rw [h3 j hj]
end
end Go.Proofs.YtdifgiceallpiaaDoor.Hd
end
section
namespace Go.Proofs.YtdifgiceallpiaaDoor.Sais
section
variable {n : Nat} {s : Nat → Nat} {ls : Nat → Bool}
def VW (n : Nat) (s : Nat → Nat) (ls : Nat → Bool) (j i : Nat) : List Nat := if j = 0 then W n s ls i else V n s ls i
theorem sm_diff {j a b : Nat} (h : lt_ s ls a ≠ lt_ s ls b) : VW n s ls j a ≠ VW n s ls j b := by
 intro e
 unfold VW at e
 split at e
 ·obtain ⟨t, ht⟩ := W_head (n := n) (s := s) (ls := ls) a
  obtain ⟨u, hu⟩ := W_head (n := n) (s := s) (ls := ls) b
  rw [ht, hu] at e
  injection e with e _
  exact h e
 ·obtain ⟨t, ht⟩ := V_head (n := n) (s := s) (ls := ls) a
  obtain ⟨u, hu⟩ := V_head (n := n) (s := s) (ls := ls) b
  rw [ht, hu] at e
  injection e with e _
  exact h e
theorem sm_tn {j a b : Nat} (hj : j ≠ 0) (h : lt_ s ls a = lt_ s ls b) (ha : tn ls a = true) (hb : tn ls b = true) : VW n s ls j a = VW n s ls j b := by
 unfold VW
 rw [if_neg hj, if_neg hj, V_tn ha, V_tn hb, h]
theorem sm_next (hx : Txt n s ls) {j a b : Nat} (ha : a < n) (hb : b < n) (hab : a ≠ b) (h : lt_ s ls a = lt_ s ls b) (ta : j ≠ 0 → tn ls a = false) (tb : j ≠ 0 → tn ls b = false) :
  a + 1 < n ∧ b + 1 < n ∧ (VW n s ls j a = VW n s ls j b ↔ VW n s ls (j + 1) (a + 1) = VW n s ls (j + 1) (b + 1)) := by
 have hl : ∀ x y, x < n → y < n → lt_ s ls x = lt_ s ls y → x ≠ y → x + 1 < n := by
  intro x y hx1 hy1 e hne
  rcases Nat.lt_or_ge (x + 1) n with h1 | h1
  ·exact h1
  ·have ex : x = n - 1 := by omega
   rcases Nat.lt_or_ge (y + 1) n with h2 | h2
   ·have := lt_big hx h2
    rw [← e, ex, lt_last hx] at this
    omega
   ·omega
 have h1 := hl a b ha hb h hab
 have h2 := hl b a hb ha h.symm hab.symm
 refine ⟨h1, h2, ?_⟩
 have e1 : VW n s ls j a = W n s ls a := by
  unfold VW
  by_cases hj : j = 0
  ·rw [if_pos hj]
  ·rw [if_neg hj, V_not (ta hj)]
 have e2 : VW n s ls j b = W n s ls b := by
  unfold VW
  by_cases hj : j = 0
  ·rw [if_pos hj]
  ·rw [if_neg hj, V_not (tb hj)]
 rw [e1, e2, zco h1, zco h2, h]
 unfold VW
 rw [if_neg (Nat.succ_ne_zero j), if_neg (Nat.succ_ne_zero j)]
 constructor
 ·intro e; injection e
 ·intro e; rw [e]
theorem tn_same {a b : Nat} (h0 : a ≠ 0) (h1 : b ≠ 0) (h : lt_ s ls a = lt_ s ls b) (hp : lt_ s ls (a - 1) = lt_ s ls (b - 1)) : tn ls a = tn ls b := by
 have e1 := (lt_eq h).2
 have e2 := (lt_eq hp).2
 unfold tn
 rw [e1, e2, decide_eq_true (show 0 < a by omega), decide_eq_true (show 0 < b by omega)]
end
end Go.Proofs.YtdifgiceallpiaaDoor.Sais
namespace Go.Proofs.YtdifgiceallpiaaDoor.Hd
open Go Go.RowKit YtdifgiceallpiaaDoorW.PrintWords YtdifgiceallpiaaDoorW.PrintLast YtdifgiceallpiaaDoorW.PrintMore YtdifgiceallpiaaDoor.Hw YtdifgiceallpiaaDoor.Com YtdifgiceallpiaaDoor.Cn YtdifgiceallpiaaDoor.P YtdifgiceallpiaaDoor.Sais
attribute [local go_sem] za9 za8 zbi zbj za0 za1 zba zbb
section
variable (gx : Nat) (A : Option Addr) (c0 gl gz n m : Nat) (s : Nat → Nat) (ls : Nat → Bool) (w : World)
theorem same_ok (i k : Nat) (h : Ind w gx A c0 gl gz n m s ls) (hx : Txt n s ls) (hi : i < n) (hk : k < n) (hik : i ≠ k) :
  Calls Tryd.prog 83 #[.pointer (some ⟨gx, 0, none⟩), .int .i64 (i : Int), .int .i64 (k : Int)] w fun e w' => e = .returned (.bool (decide (W n s ls i = W n s ls k))) ∧ Below w.heap.size w w' := by
 obtain ⟨ad, hA, _⟩ := h.cs hi
 subst hA
 have HC := zaa.mk (show ∀ i, i < n → w.cell? (ad.add i) = some (.int .i64 (s i : Int)) from fun i hi => by
  obtain ⟨ad2, h1, h2⟩ := h.cs hi
  cases h1
  exact h2)
 have H := zaa.mk h
 have HX := zaa.mk hx
 have HI := zaa.mk (And.intro hi (And.intro hk (And.intro hik h.n1)))
 clear h hx hi hk hik
 go_enter Tryd.func83, Tryd.ntmps83
 go_wp2
 go_loopg [7] n (fun q v7 w' => ∃ (L : Int) (j : Nat), v7 = .int .i64 L ∧ zaa (L = (j : Int) ∧ j + q = n ∧ i + j < n ∧ k + j < n ∧ (j ≠ 0 → lt_ s ls (i + j - 1) = lt_ s ls (k + j - 1)) ∧ (W n s ls i = W n s ls k ↔ VW n s ls j (i + j) = VW n s ls j (k + j))) ∧ zaa (Below w.heap.size w w'))
 case atStart => exact ⟨0, 0, rfl, ⟨rfl, by omega, by have := HI.out; omega, by have := HI.out; omega, by simp, Iff.rfl⟩, ⟨Below.refl _ _⟩⟩
 case round =>
  obtain ⟨L, j, rfl, HL, B⟩ := hrel
  cases gk with
  | zero => have := HL.out; omega
  | succ q =>
   obtain rfl : L = (j : Int) := HL.out.1
   obtain ⟨a, ha⟩ : ∃ a, i + j = a := ⟨_, rfl⟩
   obtain ⟨b, hb⟩ : ∃ b, k + j = b := ⟨_, rfl⟩
   have han : a < n := by have := HL.out; omega
   have hbn : b < n := by have := HL.out; omega
   have e1 : wrap64 ((i : Int) + (j : Int)) = (a : Int) := by have := HI.out; rw [w64 (by omega) (by omega)]; omega
   have e2 : wrap64 ((k : Int) + (j : Int)) = (b : Int) := by have := HI.out; rw [w64 (by omega) (by omega)]; omega
   have e3 : wrap64 ((j : Int) + 1) = ((j + 1 : Nat) : Int) := by have := HI.out; have := HL.out; rw [w64 (by omega) (by omega)]; omega
   have e4 : IntKind.i64.wrap ((i : Int) + (j : Int)) = (a : Int) := (i64_w _).trans e1
   have e5 : IntKind.i64.wrap ((k : Int) + (j : Int)) = (b : Int) := (i64_w _).trans e2
   have IH := zaa.mk (H.out.below B.out)
   have k0 := IH.out.k0
   have k1 := IH.out.k1
   have hc := HC.out a han
   have k2 := (B.out.cell (World.block_lt_of_cell? w _ hc)).trans hc
   have hd := HC.out b hbn
   have k3 := (B.out.cell (World.block_lt_of_cell? w _ hd)).trans hd
   have k4 := IH.out.cl han
   have k5 := IH.out.cl hbn
   have p1 : ((a : Int) < (n : Int)) = True := eq_true (by omega)
   have p2 : (a < n) = True := eq_true han
   have p3 : ((b : Int) < (n : Int)) = True := eq_true (by omega)
   have p4 : (b < n) = True := eq_true hbn
   have HAB := zaa.mk (show i + j = a ∧ k + j = b ∧ a < n ∧ b < n ∧ a ≠ b from ⟨ha, hb, han, hbn, by have := HI.out; omega⟩)
   have hW := HL.out.2.2.2.2.2
   have hP := HL.out.2.2.2.2.1
   rw [ha, hb] at hW hP
   have HW := zaa.mk (And.intro hW hP)
   obtain ⟨sa, hsa⟩ : ∃ sa, s a = sa := ⟨_, rfl⟩
   obtain ⟨sb, hsb⟩ : ∃ sb, s b = sb := ⟨_, rfl⟩
   obtain ⟨la, hla⟩ : ∃ la, ls a = la := ⟨_, rfl⟩
   obtain ⟨lb, hlb⟩ : ∃ lb, ls b = lb := ⟨_, rfl⟩
   rw [hsa] at k2
   rw [hsb] at k3
   rw [hla] at k4
   rw [hlb] at k5
   clear hc hd ha hb han hbn hW hP
   by_cases g1 : sa = sb
   case neg =>
    have t1 : ((sa : Int) != (sb : Int)) = true := bne_iff_ne.2 (by omega)
    have t2 : (sa != sb) = true := bne_iff_ne.2 g1
    have HR := zaa.mk (show decide (W n s ls i = W n s ls k) = false from decide_eq_false (fun e => sm_diff (n := n) (j := j) (s := s) (ls := ls) (a := a) (b := b) (fun e2 => g1 (by rw [← hsa, ← hsb]; exact (lt_eq e2).1)) (HW.out.1.1 e)))
    clear g1 hsa hsb hla hlb
    go_wp2
    go_quiet (fail)
    go_wp2
    go_ret
    rw [HR.out]
    exact ⟨rfl, zab B.out nq⟩
   subst g1
   have t1 : ((sa : Int) != (sa : Int)) = false := by simp
   by_cases g2 : la = lb
   case neg =>
    have HR := zaa.mk (show decide (W n s ls i = W n s ls k) = false from decide_eq_false (fun e => sm_diff (n := n) (j := j) (s := s) (ls := ls) (a := a) (b := b) (fun e2 => g2 (by rw [← hla, ← hlb]; exact (lt_eq e2).2)) (HW.out.1.1 e)))
    obtain rfl : lb = !la := by cases la <;> cases lb <;> first | rfl | exact absurd rfl g2
    clear g2 hsa hsb hla hlb
    cases la with
    | true =>
     simp only [Bool.not_true] at k5
     go_wp2
     go_quiet (fail)
     go_wp2
     go_ret
     rw [HR.out]
     exact ⟨rfl, zab B.out nq⟩
    | false =>
     simp only [Bool.not_false] at k5
     go_wp2
     go_quiet (fail)
     go_wp2
     go_ret
     rw [HR.out]
     exact ⟨rfl, zab B.out nq⟩
   subst g2
   have t2 : (la != la) = false := by simp
   have HE := zaa.mk (show lt_ s ls a = lt_ s ls b from lt_same (hsa.trans hsb.symm) (hla.trans hlb.symm))
   clear hsa hsb hla hlb
   go_wp2
   go_quiet (fail)
   obtain ⟨w1, hw1⟩ : ∃ w1, wr.drewN nq = w1 := ⟨_, rfl⟩
   have B1 := zaa.mk (zab B.out nq)
   rw [hw1] at B1
   rw [hw1]
   clear hw1 k0 k1 k2 k3 k4 k5 IH B
   have I1 := zaa.mk (H.out.below B1.out)
   by_cases g3 : j = 0
   ·have t3 : decide ((0 : Int) < (j : Int)) = false := decide_eq_false (by omega)
    have t4 : decide (0 < j) = false := decide_eq_false (by omega)
    have HJ := zaa.mk g3
    clear g3
    go_wp2
    go_roundg q
    case measure => omega
    case rel =>
     have hn := sm_next HX.out (j := j) HAB.out.2.2.1 HAB.out.2.2.2.1 HAB.out.2.2.2.2 HE.out (fun h => absurd HJ.out h) (fun h => absurd HJ.out h)
     exact ⟨((j + 1 : Nat) : Int), j + 1, by simp only [e3], ⟨rfl, by have := HL.out; omega, by have := HAB.out; omega, by have := HAB.out; omega, fun _ => by have := HAB.out; rw [show i + (j + 1) - 1 = a from by omega, show k + (j + 1) - 1 = b from by omega]; exact HE.out, by
      rw [show i + (j + 1) = a + 1 from by have := HAB.out; omega, show k + (j + 1) = b + 1 from by have := HAB.out; omega]
      exact HW.out.1.trans hn.2.2⟩, B1⟩
   ·have t3 : decide ((0 : Int) < (j : Int)) = true := decide_eq_true (by omega)
    have t4 : decide (0 < j) = true := decide_eq_true (by omega)
    have ht : tn ls a = tn ls b := tn_same (by have := HAB.out; omega) (by have := HAB.out; omega) HE.out (HW.out.2 g3)
    have HJ := zaa.mk g3
    clear g3
    cases hta : tn ls a with
    | true =>
     rw [hta] at ht
     have HT := zaa.mk (And.intro hta ht.symm)
     have HR := zaa.mk (show decide (W n s ls i = W n s ls k) = true from decide_eq_true (HW.out.1.2 (sm_tn HJ.out HE.out hta ht.symm)))
     clear hta ht
     go_wp2_with (first
      | (go_at_call 80; refine (zch gx (some ad) c0 gl gz n m s ls _ a I1.out HAB.out.2.2.1).mono ?_; rintro e w2 ⟨rfl, hB⟩; rw [HT.out.1]; have B2 := zaa.mk (zaf B1.out hB); have I2 := zaa.mk (H.out.below B2.out); clear hB I1 B1)
      | (go_at_call 80; refine (zch gx (some ad) c0 gl gz n m s ls _ a I2.out HAB.out.2.2.1).mono ?_; rintro e w3 ⟨rfl, hB⟩; rw [HT.out.1]; have B3 := zaa.mk (zaf B2.out hB); have I3 := zaa.mk (H.out.below B3.out); clear hB I2 B2)
      | (go_at_call 80; refine (zch gx (some ad) c0 gl gz n m s ls _ b I3.out HAB.out.2.2.2.1).mono ?_; rintro e w4 ⟨rfl, hB⟩; rw [HT.out.2]; have B4 := zaa.mk (zaf B3.out hB); clear hB))
     go_ret
     rw [HR.out]
     exact ⟨rfl, B4.out⟩
    | false =>
     rw [hta] at ht
     have HT := zaa.mk (And.intro hta ht.symm)
     clear hta ht
     go_wp2_with (first
      | (go_at_call 80; refine (zch gx (some ad) c0 gl gz n m s ls _ a I1.out HAB.out.2.2.1).mono ?_; rintro e w2 ⟨rfl, hB⟩; rw [HT.out.1]; have B2 := zaa.mk (zaf B1.out hB); have I2 := zaa.mk (H.out.below B2.out); clear hB I1 B1)
      | (go_at_call 80; refine (zch gx (some ad) c0 gl gz n m s ls _ b I2.out HAB.out.2.2.2.1).mono ?_; rintro e w3 ⟨rfl, hB⟩; rw [HT.out.2]; have B3 := zaa.mk (zaf B2.out hB); clear hB I2 B2))
     go_roundg q
     case measure => omega
     case rel =>
      have hn := sm_next HX.out (j := j) HAB.out.2.2.1 HAB.out.2.2.2.1 HAB.out.2.2.2.2 HE.out (fun _ => HT.out.1) (fun _ => HT.out.2)
      exact ⟨((j + 1 : Nat) : Int), j + 1, by simp only [e3], ⟨rfl, by have := HL.out; omega, by have := HAB.out; omega, by have := HAB.out; omega, fun _ => by have := HAB.out; rw [show i + (j + 1) - 1 = a from by omega, show k + (j + 1) - 1 = b from by omega]; exact HE.out, by
       rw [show i + (j + 1) = a + 1 from by have := HAB.out; omega, show k + (j + 1) = b + 1 from by have := HAB.out; omega]
       exact HW.out.1.trans hn.2.2⟩, B3⟩
end
end Go.Proofs.YtdifgiceallpiaaDoor.Hd
end
