/- suffix: doubled, walked by hand. -/
import Derived.Test.YtdifgiceallpiaaDoorXSaDbl
set_option linter.unusedVariables false
set_option linter.unusedSimpArgs false
set_option linter.unusedSectionVars false
namespace Go.Proofs.YtdifgiceallpiaaDoor.Sais
section
variable {x : List Nat}
theorem pre_one {p : Nat} (hp : p < x.length) : pre x 1 p = [x.getD p 0] := by
 unfold pre
 rw [List.drop_eq_getElem_cons hp, gD hp]; rfl
theorem dbl_start : DbInv x 1 (fun p => x.getD p 0 + 1) := by
 refine ⟨Nat.le_refl _, fun p q hp hq h => ?_, fun p q hp hq h => ?_, fun p _ => by omega⟩
 ·rw [pre_one hp, pre_one hq, List.cons_lt_cons_iff]
  exact .inl (by omega)
 ·rw [pre_one hp, pre_one hq]
  have : x.getD p 0 = x.getD q 0 := by omega
  rw [this]
section
variable {h : Nat} {a : List Nat}
def stD (x : List Nat) (h : Nat) (a : List Nat) (i : Nat) : (Nat → Nat) × Nat × Option Nat := nmL (pre x (h + h)) (a.take i)
def mny (x : List Nat) (h : Nat) (a : List Nat) (i : Nat) : Nat := if i = 0 then 1 else (stD x h a i).2.1 + 2
def nxT (x : List Nat) (h : Nat) (a : List Nat) (i y : Nat) : Nat := if y ∈ a.take i then (stD x h a i).1 y + 1 else 0
theorem stD_ok (ha : Perm0 x.length a) (ho : a.Pairwise (fun p q => pre x (h + h) p ≤ pre x (h + h) q)) (i : Nat) : NmOk (pre x (h + h)) (a.take i) (stD x h a i) :=
 nm_ok _ _ rfl (ha.nd.sublist (List.take_sublist _ _)) (ho.sublist (List.take_sublist _ _))
theorem stD_succ {i p : Nat} (hp : a[i]? = some p) : stD x h a (i + 1) = nmStep (pre x (h + h)) (stD x h a i) p := by
 unfold stD
 rw [← nmL_snoc, List.take_add_one, hp]; rfl
theorem mem_take_succ {i p y : Nat} (hp : a[i]? = some p) : y ∈ a.take (i + 1) ↔ y ∈ a.take i ∨ y = p := by
 rw [List.take_add_one, hp]
 simp
theorem nx_step {i p : Nat} (hp : a[i]? = some p) : ∃ m', (stD x h a (i + 1)).2.1 = m' ∧ mny x h a (i + 1) = m' + 2 ∧ ∀ y, nxT x h a (i + 1) y = if y = p then m' + 1 else nxT x h a i y := by
 refine ⟨_, rfl, by unfold mny; rw [if_neg (Nat.succ_ne_zero i)], fun y => ?_⟩
 unfold nxT
 have hs := stD_succ (x := x) (h := h) hp
 have e1 : (stD x h a (i + 1)).1 = upd (stD x h a i).1 p (stD x h a (i + 1)).2.1 := by rw [hs]; rfl
 by_cases e : y = p
 ·rw [if_pos e, if_pos ((mem_take_succ hp).2 (.inr e)), e1, e, upd_same]
 ·rw [if_neg e, e1, upd_ne _ _ e]
  by_cases hm : y ∈ a.take i
  ·rw [if_pos hm, if_pos ((mem_take_succ hp).2 (.inl hm))]
  ·rw [if_neg hm, if_neg (fun h => by rcases (mem_take_succ hp).1 h with h | h; exact hm h; exact e h)]
theorem nx_first {p : Nat} (hp : a[0]? = some p) : (stD x h a 1).2.1 = 0 := by
 rw [stD_succ hp]
 simp [stD, nmL, nmStep]
theorem nx_more (ha : Perm0 x.length a) (ho : a.Pairwise (fun p q => pre x (h + h) p ≤ pre x (h + h) q)) {i p y : Nat} (hp : a[i + 1]? = some p) (hy : a[i]? = some y) :
  (stD x h a (i + 1 + 1)).2.1 = if pre x (h + h) y = pre x (h + h) p then (stD x h a (i + 1)).2.1 else (stD x h a (i + 1)).2.1 + 1 := by
 have hk := stD_ok ha ho (i + 1)
 have hl : (a.take (i + 1)).getLast? = some y := by rw [List.take_add_one, hy]; simp
 have h2 := (hk.l y hl).1
 rw [stD_succ hp]
 unfold nmStep
 rw [h2]
theorem mny_le (ha : Perm0 x.length a) (ho : a.Pairwise (fun p q => pre x (h + h) p ≤ pre x (h + h) q)) {i : Nat} (hi : i ≤ x.length) : mny x h a i ≤ i + 1 := by
 unfold mny
 split
 ·omega
 ·rename_i h0
  have hk := stD_ok ha ho i
  have hlen : (a.take i).length = i := by rw [List.length_take, ha.len]; omega
  cases hL : (a.take i).getLast? with
  | none => have := List.getLast?_eq_none_iff.1 hL; rw [this] at hlen; simp at hlen; omega
  | some z => have := (hk.l z hL).2.2; omega
end
theorem dbl_stop {h : Nat} {a : List Nat} (ha : Perm0 x.length a) (ho : a.Pairwise (fun p q => pre x (h + h) p ≤ pre x (h + h) q)) (hs : x.length < mny x h a x.length ∨ x.length ≤ h) : SrtOk x a := by
 refine srt_all ha ho (fun p q hp hq e => ?_)
 rcases hs with h1 | h1
 ·refine dbl_apart ha ho ?_ p q hp hq e
  unfold mny at h1
  rw [if_neg (by omega)] at h1
  unfold stD at h1
  rw [List.take_of_length_le (by rw [ha.len]; exact Nat.le_refl _)] at h1
  omega
 ·exact pre_all (by omega) hp hq e
theorem dbl_more {h : Nat} {a : List Nat} (h1 : 1 ≤ h) (ha : Perm0 x.length a) (ho : a.Pairwise (fun p q => pre x (h + h) p ≤ pre x (h + h) q)) (hs : ¬ x.length < mny x h a x.length) :
  DbInv x (h + h) (fun p => (stD x h a x.length).1 p + 1) ∧ (∀ p, p < x.length → (stD x h a x.length).1 p + 1 < mny x h a x.length) ∧ ∀ y, y < x.length → nxT x h a x.length y = (stD x h a x.length).1 y + 1 := by
 have hx : x.length ≠ 0 := fun e => hs (by unfold mny; rw [if_pos e]; omega)
 have ht : a.take x.length = a := List.take_of_length_le (by rw [ha.len]; exact Nat.le_refl _)
 refine ⟨?_, fun p hp => ?_, fun y hy => ?_⟩
 ·have := dbl_next (h := h + h) (by omega) ha ho
  unfold stD
  rw [ht]
  exact this
 ·have hk := stD_ok ha ho x.length
  rw [ht] at hk
  have := hk.c p (ha.all p hp)
  unfold mny
  rw [if_neg hx]
  omega
 ·unfold nxT
  rw [ht, if_pos (ha.all y hy)]
theorem perm_range (n : Nat) : Perm0 n (List.range n) := ⟨List.length_range, List.nodup_range, fun _ h => List.mem_range.1 h⟩
theorem dbl_start_ord : Perm0 x.length (csL (List.range x.length) (fun p => x.getD p 0 + 1)) ∧ (csL (List.range x.length) (fun p => x.getD p 0 + 1)).Pairwise (fun p q => pre x 1 p ≤ pre x 1 q) := by
 have hp := csL_perm (rank := fun p => x.getD p 0 + 1) (perm_range x.length)
 have h := csL_rel (P := List.range x.length) (rank := fun p => x.getD p 0 + 1) (R := fun _ _ => True) (List.pairwise_of_forall (fun _ _ => trivial))
 refine ⟨hp, List.Pairwise.imp_of_mem (fun {p q} h1 h2 h3 => ?_) h⟩
 have h1 := hp.lt p h1
 have h2 := hp.lt q h2
 rcases h3 with h3 | ⟨h3, _⟩
 ·exact List.le_iff_lt_or_eq.2 (.inl (dbl_start.a p q h1 h2 h3))
 ·exact List.le_iff_lt_or_eq.2 (.inr (dbl_start.b p q h1 h2 h3))
end
end Go.Proofs.YtdifgiceallpiaaDoor.Sais
namespace Go.Proofs.YtdifgiceallpiaaDoor.Hd
open Go Go.RowKit YtdifgiceallpiaaDoorW.PrintWords YtdifgiceallpiaaDoorW.PrintLast YtdifgiceallpiaaDoorW.PrintMore YtdifgiceallpiaaDoor.Hw YtdifgiceallpiaaDoor.Com YtdifgiceallpiaaDoor.Cn YtdifgiceallpiaaDoor.P YtdifgiceallpiaaDoor.Sais
attribute [local go_sem] za9 za8 zbi zbj za0 za1 zba zbb
structure D1 (w : World) (gn gr ga gk n : Nat) (fa fk : Nat → Int) (W : World) : Prop where
 i : I2 w ga gk n n fa fk W
 r : W.heap[gr]? = some (.cells #[.slice (some ⟨gk, 0, none⟩) n n] 29 (0, 0))
 n : W.heap[gn]? = some (.cells #[.int .i64 (n : Int)] 3 (0, 0))
 na : gn ≠ ga
 nk : gn ≠ gk
 lr : w.heap.size ≤ gr
section
variable {w W : World} {gn gr ga gk n : Nat} {fa fa' fk fk' : Nat → Int}
theorem D1.ne (h : D1 w gn gr ga gk n fa fk W) : gr ≠ ga ∧ gr ≠ gk := ⟨zb9 h.r (show W.heap[ga]? = some (.cells (ints .i64 (tabn n fa)) 3 (0, 0)) from h.i.o) (by decide), zb9 h.r (show W.heap[gk]? = some (.cells (ints .i64 (tabn n fk)) 3 (0, 0)) from h.i.a) (by decide)⟩
theorem D1.seto (h : D1 w gn gr ga gk n fa fk W) (j : Nat) (v : Int) (hf : ∀ y, y < n → (if y = j then v else fa y) = fa' y) : D1 w gn gr ga gk n fa' fk (W.setCell ⟨ga, j, none⟩ (.int .i64 v)) :=
 ⟨h.i.seto j v hf, zbo h.r h.ne.1 _, zbo h.n h.na _, h.na, h.nk, h.lr⟩
theorem D1.seta (h : D1 w gn gr ga gk n fa fk W) (j : Nat) (v : Int) (hf : ∀ y, y < n → (if y = j then v else fk y) = fk' y) : D1 w gn gr ga gk n fa fk' (W.setCell ⟨gk, j, none⟩ (.int .i64 v)) :=
 ⟨h.i.seta j v hf, zbo h.r h.ne.2 _, zbo h.n h.nk _, h.na, h.nk, h.lr⟩
theorem D1.drew (h : D1 w gn gr ga gk n fa fk W) : D1 w gn gr ga gk n fa fk W.drew := ⟨h.i.drew, h.r, h.n, h.na, h.nk, h.lr⟩
end
theorem counted_at (A0 : Option Addr) (c0 many k : Nat) (mI : Int) (P : List Nat) (rank : Nat → Nat) (f : FuncId) (fn : Func) (cap : Array Value) (w : World) (hk : P.length = k) (hmI : mI = (many : Int)) (hC : Kd.C (Kd.int .i64) w A0 k (iN P)) (hr : ∀ p, p ∈ P → rank p < many) (hR : RankV w f cap P rank)
  (hf : Tryd.prog.funcs[f]? = some fn) (hname : (fn.name == "runtime.NumGoroutine") = false) (hb : fn.body.isSome = true) (hl : k ≤ 1073741824) (hm : many ≤ 1073741824) :
  Calls Tryd.prog 68 #[.slice A0 k c0, .int .i64 mI, .func (.func f) #[] cap] w fun e w' => ∃ g : Nat, e = .returned (.slice (some ⟨g, 0, none⟩) k k) ∧ w.heap.size ≤ g ∧ Blk w' g .i64 3 (iN (csL P rank)) ∧ Below w.heap.size w w' := by
 subst hk hmI
 exact counted_ok A0 c0 many P rank f fn cap w hC hr hR hf hname hb hl hm
theorem blk_Ck {W : World} {g k : Nat} {l : List Nat} (h : Blk W g .i64 3 (iN l)) (hl : l.length = k) (hk : k ≤ 1099511627776) : Kd.C (Kd.int .i64) W (some ⟨g, 0, none⟩) k (iN l) := by
 have := blk_C h (by rw [zb1]; omega)
 rw [zb1, hl] at this
 exact this
theorem range_tab (n : Nat) : tabn n (fun j => (j : Int)) = iN (List.range n) := by unfold iN tabn; rfl
structure D2 (w : World) (gn gr gs ga gq n h : Nat) (a : List Nat) (rk : Nat → Nat) (W : World) : Prop where
 e : Env2 gs gn gr gq n h rk W
 a : Blk W ga .i64 3 (iN a)
 lr : w.heap.size ≤ gr
 la : w.heap.size ≤ ga
 bl : Below w.heap.size w W
theorem D2.below {w W W1 : World} {gn gr gs ga gq n h : Nat} {a : List Nat} {rk : Nat → Nat} (hD : D2 w gn gr gs ga gq n h a rk W) (hB : Below W.heap.size W W1) : D2 w gn gr gs ga gq n h a rk W1 := ⟨hD.e.below hB, hD.a.below hB, hD.lr, hD.la, zaf hD.bl hB⟩
theorem D2.set {w W : World} {gn gr gs ga gq n h gx : Nat} {a : List Nat} {rk : Nat → Nat} (hD : D2 w gn gr gs ga gq n h a rk W) (hx : gn < gx ∧ gr < gx ∧ gs < gx ∧ ga < gx ∧ gq < gx ∧ w.heap.size ≤ gx) (j : Nat) (v : Value) : D2 w gn gr gs ga gq n h a rk (W.setCell ⟨gx, j, none⟩ v) :=
 ⟨⟨⟨zbo hD.e.e.r (Nat.ne_of_lt hx.2.1) _, hD.e.e.k.far (Nat.ne_of_lt hx.2.2.2.2.1) _⟩, zbo hD.e.s (Nat.ne_of_lt hx.2.2.1) _, zbo hD.e.n (Nat.ne_of_lt hx.1) _⟩, hD.a.far (Nat.ne_of_lt hx.2.2.2.1) _, hD.lr, hD.la, zat hD.bl hx.2.2.2.2.2⟩
theorem D2.lt {w W : World} {gn gr gs ga gq n h : Nat} {a : List Nat} {rk : Nat → Nat} (hD : D2 w gn gr gs ga gq n h a rk W) : gn < W.heap.size ∧ gr < W.heap.size ∧ gs < W.heap.size ∧ ga < W.heap.size ∧ gq < W.heap.size ∧ w.heap.size ≤ W.heap.size := ⟨zb0 hD.e.n, zb0 hD.e.e.r, zb0 hD.e.s, hD.a.lt, hD.e.e.k.lt, hD.bl.size⟩
theorem D2.next {w W : World} {gn gr gs ga gq n h gx : Nat} {a : List Nat} {rk rk' : Nat → Nat} (hD : D2 w gn gr gs ga gq n h a rk W) (hx : gr ≠ gx) (hB : Blk W gx .i64 3 (tabn n (fun p => (rk' p : Int)))) : D2 w gn gr gs ga gx n h a rk' (W.setCell ⟨gr, 0, none⟩ (.slice (some ⟨gx, 0, none⟩) n n)) :=
 ⟨⟨⟨blk_set hD.e.e.r 0 _, hB.far hx.symm _⟩, zbo hD.e.s (zb9 hD.e.e.r hD.e.s (by decide)).symm _, zbo hD.e.n (zb9 hD.e.e.r hD.e.n (by decide)).symm _⟩, hD.a.far (zb9 hD.e.e.r (show W.heap[ga]? = some (.cells (ints .i64 (iN a)) 3 (0, 0)) from hD.a) (by decide)).symm _, hD.lr, hD.la, zat hD.bl hD.lr⟩
theorem D2.step {w W W1 : World} {gn gr gs gs1 ga gq n h h2 : Nat} {a : List Nat} {rk : Nat → Nat} (hD : D2 w gn gr gs ga gq n h a rk W) (hg : gs1 = W.heap.size) (hB : Below W.heap.size W W1) (hX : W1.heap[gs1]? = some (.cells #[.int .i64 0] 3 (0, 0))) (v : Value) :
  D2 w gn gr gs1 ga gq n h2 a rk ((W1.setCell ⟨gs1, 0, none⟩ v).setCell ⟨gs1, 0, none⟩ (.int .i64 (h2 : Int))) := by
 have hl := hD.lt
 rw [← hg] at hl
 obtain ⟨l1, l2, l3, l4, l5, l6⟩ := hl
 exact ⟨⟨⟨zbo (zbo (za6 hD.e.e.r hB) (Nat.ne_of_lt l2) _) (Nat.ne_of_lt l2) _, ((hD.e.e.k.below hB).far (Nat.ne_of_lt l5) _).far (Nat.ne_of_lt l5) _⟩, blk_set (blk_set hX 0 _) 0 _, zbo (zbo (za6 hD.e.n hB) (Nat.ne_of_lt l1) _) (Nat.ne_of_lt l1) _⟩, ((hD.a.below hB).far (Nat.ne_of_lt l4) _).far (Nat.ne_of_lt l4) _, hD.lr, hD.la, zat (zat (zaf hD.bl hB) l6) l6⟩
theorem a_cell {W : World} {g i y : Nat} {a : List Nat} (h : Blk W g .i64 3 (iN a)) (hy : a[i]? = some y) : W.cell? ⟨g, i, none⟩ = some (.int .i64 (y : Int)) := by
 have hl := (List.getElem?_eq_some_iff.1 hy).1
 have := h.cell i (by rw [zb1]; exact hl)
 rw [iN_getD, List.getD_eq_getElem?_getD, hy] at this
 exact this
set_option maxHeartbeats 16000000 in
set_option maxRecDepth 100000 in
theorem doubled_ok (x : ByteArray) (w : World) (hx : x.size ≤ 16777216) : Calls Tryd.prog 48 #[.string x] w fun e w' => ∃ (g : Nat) (sa : List Nat), e = .returned (.slice (some ⟨g, 0, none⟩) x.size x.size) ∧ w.heap.size ≤ g ∧ Blk w' g .i64 3 (iN sa) ∧ SrtOk (nb x) sa ∧ Below w.heap.size w w' := by
 have HX := zaa.mk hx
 clear hx
 go_enter Tryd.func48, Tryd.ntmps48
 go_wp2_with (first
  | ((with_reducible refine zay (N := 3) rfl ?_); refine alloc_var rfl rfl info3 rfl ?_; intro gn w1 G1 X1 B1; have kc1 := (zah X1.out 0).trans (rfl : _ = some (Value.int .i64 0)); have kf1 := zao X1.out 0; have X2 := zaa.mk (show (w1.setCell ⟨gn, 0, none⟩ (.int .i64 (x.size : Int))).heap[gn]? = some (.cells #[.int .i64 (x.size : Int)] 3 (0, 0)) from blk_set X1.out 0 _); have B2 := zaa.mk (zat (g := gn) (j := 0) (v := .int .i64 (x.size : Int)) B1.out (Nat.le_of_eq G1.out.symm)); have k0 := (zah X2.out 0).trans (rfl : _ = some (Value.int .i64 (x.size : Int))))
  | ((with_reducible refine zay (N := 17) rfl ?_); refine zce rfl rfl x.size rfl rfl Tryd.underlying29 .i64 info3 (by decide) (by have := HX.out; omega) ?_; intro ga w3 G3 K3 B3; have X3 := zaa.mk (za6 X2.out B3.out); have C3 := zaa.mk (zaf B2.out B3.out); have NA := zaa.mk (show gn ≠ ga from by have := zb0 X2.out; have := G3.out; omega); have k3 := (zah X3.out 0).trans (rfl : _ = some (Value.int .i64 (x.size : Int))); clear kc1 kf1 k0)
  | ((with_reducible refine zay (N := 19) rfl ?_); refine zce rfl rfl x.size rfl rfl Tryd.underlying29 .i64 info3 (by decide) (by have := HX.out; omega) ?_; intro gq w4 G4 K4 B4; have X4 := zaa.mk (za6 X3.out B4.out); have C4 := zaa.mk (zaf C3.out B4.out); have NK := zaa.mk (show gn ≠ gq ∧ ga ≠ gq from by have := zb0 X3.out; have := K3.out.lt; have := G4.out; omega); have KA4 := zaa.mk (K3.out.below B4.out); clear k3)
  | ((with_reducible refine zay (N := 5) rfl ?_); refine alloc_var rfl rfl info22 rfl ?_; intro gr w5 G5 X5 B5; have kc5 := (zah X5.out 0).trans (rfl : _ = some (Value.slice none 0 0)); have kf5 := zao X5.out 0; have J0 := zaa.mk (show D1 w gn gr ga gq x.size (fun j => if j < 0 then (j : Int) else 0) (fun j => if j < 0 then ((nb x).getD j 0 + 1 : Nat) else 0) (w5.setCell ⟨gr, 0, none⟩ (.slice (some ⟨gq, 0, none⟩) x.size x.size)) from by
    have ha := KA4.out.below B5.out
    have hk := K4.out.below B5.out
    rw [zb8] at ha hk
    have n1 : gr ≠ ga := zb9 X5.out (show w5.heap[ga]? = some (.cells (ints .i64 (tabn x.size (fun _ => 0))) 3 (0, 0)) from ha) (by decide)
    have n2 : gr ≠ gq := zb9 X5.out (show w5.heap[gq]? = some (.cells (ints .i64 (tabn x.size (fun _ => 0))) 3 (0, 0)) from hk) (by decide)
    have hn := za6 X4.out B5.out
    have n3 : gr ≠ gn := zb9 X5.out hn (by decide)
    have l1 := Nat.le_trans C3.out.size G4.out
    have l2 := Nat.le_trans B2.out.size G3.out
    have l3 : w.heap.size ≤ gr := by rw [G5.out]; exact C4.out.size
    exact ⟨⟨ha.far n1.symm _, hk.far n2.symm _, NK.out.2, l2, l1, zat (zaf C4.out B5.out) l3⟩, blk_set X5.out 0 _, zbo hn n3.symm _, NA.out, NK.out.1, l3⟩)))
 clear kc5 kf5 X1 B1 X2 B2 X3 C3 X4 C4 NA NK KA4 K3 K4 B3 B4 X5 B5 G1 G3 G4 G5
 obtain ⟨w6, hw6⟩ : ∃ w6, w5.setCell ⟨gr, 0, none⟩ (.slice (some ⟨gq, 0, none⟩) x.size x.size) = w6 := ⟨_, rfl⟩
 rw [hw6] at J0
 rw [hw6]
 clear hw6
 go_loopg [22] x.size (fun q v22 w' => ∃ (L : Int) (i : Nat), v22 = .int .i64 L ∧ zaa (L = (i : Int) ∧ i + q = x.size) ∧ zaa (D1 w gn gr ga gq x.size (fun j => if j < i then (j : Int) else 0) (fun j => if j < i then ((nb x).getD j 0 + 1 : Nat) else 0) w'))
 case atStart => exact ⟨0, 0, rfl, ⟨rfl, by omega⟩, J0⟩
 case round =>
  clear J0
  obtain ⟨L, i, rfl, HL, D⟩ := hrel
  cases gk with
  | succ q =>
   obtain rfl : L = (i : Int) := HL.out.1
   have hin : i < x.size := by have := HL.out; omega
   have t1 : decide ((i : Int) < (x.size : Int)) = true := decide_eq_true (by omega)
   have t2 : decide (i < x.size) = true := decide_eq_true hin
   have p1 : ((i : Int) < (x.size : Int)) = True := eq_true (by omega)
   have p2 : (i < x.size) = True := eq_true hin
   have e1 : wrap64 ((i : Int) + 1) = ((i + 1 : Nat) : Int) := by have := HX.out; rw [w64 (by omega) (by omega)]; omega
   have kf := D.out.i.o.free i
   have kg := D.out.i.co hin
   have HIN := zaa.mk hin
   clear hin
   go_wp2
   have J := zaa.mk (D.out.seto (fa' := fun j => if j < i + 1 then (j : Int) else 0) i (i : Int) (fun y hy => by
    by_cases e : y = i
    ·rw [if_pos e, if_pos (by omega), e]
    ·rw [if_neg e]
     by_cases h2 : y < i
     ·rw [if_pos h2, if_pos (by omega)]
     ·rw [if_neg h2, if_neg (by omega)]))
   obtain ⟨w7, hw7⟩ : ∃ w7, wr.setCell ⟨ga, i, none⟩ (.int .i64 (i : Int)) = w7 := ⟨_, rfl⟩
   rw [hw7] at J
   rw [hw7]
   clear hw7 kf kg
   have k1 : w7.cell? ⟨gr, 0, none⟩ = some (.slice (some ⟨gq, 0, none⟩) x.size x.size) := (zah J.out.r 0).trans rfl
   refine zcr (n := 9) (S := fun w' => w'.cell? ⟨gr, 0, none⟩ = some (.slice (some ⟨gq, 0, none⟩) x.size x.size)) (ds := [8]) #[false, false, false, false, false, false, false, false, false] (by kernel_rfl) rfl rfl (k1) (fun hHeld => ?_)
   refine pure_ (i := 1) (N := some 30) (v := ?_) (a' := ?_) #[false, true, false, false, false, false, false, false, false] rfl rfl (by kernel_rfl) (fun _ _ _ h => h) (Or.inl ⟨by rfl, ?_⟩) ?_ ?_
   rotate_left
   ·intro w'
    go_simp
    with_reducible rfl
   rotate_left
   ·simp only [Act.put, sAt, sZr, sSc, i64_w, i32_w]
    rfl
   refine pure_ (i := 2) (N := some 31) (v := ?_) (a' := ?_) #[false, true, true, false, false, false, false, false, false] rfl rfl (by kernel_rfl) (fun _ _ _ h => h) (Or.inl ⟨by rfl, ?_⟩) ?_ ?_
   rotate_left
   ·intro w'
    go_simp
    with_reducible rfl
   rotate_left
   ·simp only [Act.put, sAt, sZr, sSc, i64_w, i32_w]
    rfl
   refine pure_ (i := 3) (N := some 32) (v := ?_) (a' := ?_) #[false, true, true, true, false, false, false, false, false] rfl rfl (by kernel_rfl) (fun _ _ _ h => h) (Or.inl ⟨by rfl, ?_⟩) ?_ ?_
   rotate_left
   ·intro w'
    go_simp
    with_reducible rfl
   rotate_left
   ·simp only [Act.put, sAt, sZr, sSc, i64_w, i32_w]
    rfl
   refine take_ (i := 0) (N := some 29) (v := ?_) (a' := ?_) #[true, true, true, true, false, false, false, false, false] rfl rfl (by kernel_rfl) (fun _ _ _ h => h) (Or.inl ⟨by rfl, ?_⟩) hHeld ?_ ?_
   rotate_left
   ·intro w' s0
    go_simp
    with_reducible rfl
   rotate_left
   ·simp only [Act.put, sAt, sZr, sSc, i64_w, i32_w]
    rfl
   refine take_ (i := 4) (N := some 33) (v := ?_) (a' := ?_) #[true, true, true, true, true, false, false, false, false] rfl rfl (by kernel_rfl) (fun _ _ _ h => h) (Or.inl ⟨by rfl, ?_⟩) hHeld ?_ ?_
   rotate_left
   ·intro w' s0
    go_simp
    with_reducible rfl
   rotate_left
   ·simp only [Act.put, sAt, sZr, sSc, i64_w, i32_w]
    rfl
   refine pure_ (i := 5) (N := some 34) (v := ?_) (a' := ?_) #[true, true, true, true, true, true, false, false, false] rfl rfl (by kernel_rfl) (fun _ _ _ h => h) (Or.inl ⟨by rfl, ?_⟩) ?_ ?_
   rotate_left
   ·intro w'
    go_simp
    with_reducible rfl
   rotate_left
   ·simp only [Act.put, sAt, sZr, sSc, i64_w, i32_w]
    rfl
   refine pure_ (i := 6) (N := some 35) (v := ?_) (a' := ?_) #[true, true, true, true, true, true, true, false, false] rfl rfl (by kernel_rfl) (fun _ _ _ h => h) (Or.inl ⟨by rfl, ?_⟩) ?_ ?_
   rotate_left
   ·intro w'
    go_simp
    with_reducible rfl
   rotate_left
   ·simp only [Act.put, sAt, sZr, sSc, i64_w, i32_w]
    rfl
   refine pure_ (i := 7) (N := some 36) (v := ?_) (a' := ?_) #[true, true, true, true, true, true, true, true, false] rfl rfl (by kernel_rfl) (fun _ _ _ h => h) (Or.inl ⟨by rfl, ?_⟩) ?_ ?_
   rotate_left
   ·intro w'
    go_simp
    with_reducible rfl
   rotate_left
   ·simp only [Act.put, sAt, sZr, sSc, i64_w, i32_w]
    rfl
   refine last_ (i := 8) (N := none) #[true, true, true, true, true, true, true, true, true] rfl rfl (by kernel_rfl) (by decide) (fun K hK => ?_)
   have hfz := J.out.drew.i.a.free i
   have hcz := J.out.drew.i.ca HIN.out
   refine skip_ (w1 := ?_) (by rfl) rfl ?_ ?_
   rotate_left
   ·go_simp
    rfl
   refine hK.out _ _ ?_
   clear hK K
   refine done_ (by kernel_rfl) ?_
   clear hHeld hfz hcz k1
   go_wp2
   go_roundg q
   case measure => omega
   case rel =>
    refine ⟨((i + 1 : Nat) : Int), i + 1, by first | rfl | simp only [e1] | (rw [e1]), ⟨rfl, by have := HL.out; omega⟩, ⟨?_⟩⟩
    have hxi : (x[i]'(HIN.out)).toNat = (nb x).getD i 0 := by
     unfold nb
     rw [List.getD_eq_getElem?_getD, List.getElem?_map, List.getElem?_eq_getElem (show i < x.data.toList.length by have := HIN.out; simpa using this)]
     rfl
    have hlt := nb_lt x ((nb x).getD i 0) (by rw [List.getD_eq_getElem?_getD, List.getElem?_eq_getElem (by rw [zas]; exact HIN.out)]; exact List.getElem_mem _)
    rw [hxi]
    refine (J.out.seta (fk' := fun j => if j < i + 1 then (((nb x).getD j 0 + 1 : Nat) : Int) else 0) i _ (fun y hy => ?_)).drew
    by_cases e : y = i
    ·rw [if_pos e, if_pos (by omega), e, w64 (x := (((nb x).getD i 0 : Nat) : Int)) (by omega) (by omega), w64 (by omega) (by omega)]
     omega
    ·rw [if_neg e]
     by_cases h2 : y < i
     ·rw [if_pos h2, if_pos (by omega)]
     ·rw [if_neg h2, if_neg (by omega)]
  | zero =>
   have t1 : decide (L < (x.size : Int)) = false := decide_eq_false (by have := HL.out; omega)
   have hD := D.out
   have KA := zaa.mk (show Blk wr ga .i64 3 (iN (List.range x.size)) from by
    rw [← range_tab]
    refine (congrArg (Blk _ ga .i64 3) (zbd (fun y hy => ?_))).mp hD.i.o
    rw [if_pos (by have := HL.out; omega)])
   have KE := zaa.mk (show Env gr gq x.size (fun p => (nb x).getD p 0 + 1) wr from ⟨hD.r, by
    refine (congrArg (Blk _ gq .i64 3) (zbd (fun y hy => ?_))).mp hD.i.a
    rw [if_pos (by have := HL.out; omega)]⟩)
   have KN := zaa.mk hD.n
   have LR := zaa.mk (And.intro hD.lr hD.i.lo)
   have C := zaa.mk hD.i.bl
   have KC := zaa.mk (blk_Ck KA.out List.length_range (by have := HX.out; omega))
   have HRK := zaa.mk (rank1 KE.out (P := List.range x.size) (fun p hp => List.mem_range.1 hp))
   have HRM := zaa.mk (show ∀ p, p ∈ List.range x.size → (fun p => (nb x).getD p 0 + 1) p < 257 from fun p hp => by
    have hp := List.mem_range.1 hp
    have := nb_lt x ((nb x).getD p 0) (by rw [gD (by rw [zas]; exact hp)]; exact List.getElem_mem _)
    show (nb x).getD p 0 + 1 < 257
    omega)
   clear HL D hD
   go_wp2_with (first
    | (go_at_call 68; with_reducible refine (counted_at (some ⟨ga, 0, none⟩) x.size 257 x.size 257 (List.range x.size) (fun p => (nb x).getD p 0 + 1) 69 Tryd.f69 #[.pointer (some ⟨gr, 0, none⟩)] wr List.length_range rfl KC.out HRM.out HRK.out Tryd.func69 (by kernel_rfl) rfl (by have := HX.out; omega) (by omega)).mono ?_; rintro e w8 ⟨g8, rfl, hG, hK, hB⟩; have K8 := zaa.mk hK; have E8 := zaa.mk (KE.out.below hB); have N8 := zaa.mk (za6 KN.out hB); have C8 := zaa.mk (zaf C.out hB); have L8 := zaa.mk (Nat.le_trans C.out.size hG); clear hG hK hB)
    | ((with_reducible refine zay (N := 8) rfl ?_); refine alloc_var rfl rfl info3 rfl ?_; intro gs w9 G9 X9 B9; have kc9 := (zah X9.out 0).trans (rfl : _ = some (Value.int .i64 0)); have kf9 := zao X9.out 0))
   have D0 := zaa.mk (show D2 w gn gr gs g8 gq x.size 1 (csL (List.range x.size) (fun p => (nb x).getD p 0 + 1)) (fun p => (nb x).getD p 0 + 1) (w9.setCell ⟨gs, 0, none⟩ (.int .i64 1)) from by
    have hE := E8.out.below B9.out
    have hK := K8.out.below B9.out
    have hN := za6 N8.out B9.out
    have lg := G9.out
    have l1 := zb0 E8.out.r
    have l2 := E8.out.k.lt
    have l3 := K8.out.lt
    have l4 := zb0 N8.out
    have ls : w.heap.size ≤ gs := by rw [lg]; exact C8.out.size
    exact ⟨⟨⟨zbo hE.r (show gr ≠ gs by omega) _, hE.k.far (show gq ≠ gs by omega) _⟩, blk_set X9.out 0 _, zbo hN (show gn ≠ gs by omega) _⟩, hK.far (show g8 ≠ gs by omega) _, LR.out.1, L8.out, zat (zaf C8.out B9.out) ls⟩)
   obtain ⟨w10, hw10⟩ : ∃ w10, w9.setCell ⟨gs, 0, none⟩ (.int .i64 1) = w10 := ⟨_, rfl⟩
   rw [hw10] at D0
   rw [hw10]
   clear hw10 kc9 kf9 X9 B9 G9 K8 E8 N8 C8 L8 KA KE KN KC HRK HRM C LR t1
   go_loopg [4, 7, 8] x.size (fun q v4 v7 v8 w' => ∃ (M : Int) (m gs ga gq h : Nat) (a : List Nat) (rk : Nat → Nat), v4 = .slice (some ⟨ga, 0, none⟩) x.size x.size ∧ v7 = .int .i64 M ∧ v8 = .pointer (some ⟨gs, 0, none⟩) ∧
    zaa (M = (m : Int) ∧ x.size + 1 ≤ h + q ∧ h ≤ 33554434 ∧ m ≤ 33554434 ∧ (∀ p, p < x.size → rk p < m) ∧ 1 ≤ m) ∧ zaa (DbInv (nb x) h rk ∧ Perm0 x.size a ∧ a.Pairwise (fun p q => pre (nb x) h p ≤ pre (nb x) h q)) ∧ zaa (D2 w gn gr gs ga gq x.size h a rk w'))
   case atStart =>
    have hd := dbl_start_ord (x := nb x)
    rw [zas] at hd
    exact ⟨257, 257, gs, g8, gq, 1, _, _, rfl, rfl, rfl, ⟨rfl, by omega, by omega, by omega, fun p hp => by
     have := nb_lt x ((nb x).getD p 0) (by rw [gD (by rw [zas]; exact hp)]; exact List.getElem_mem _)
     omega, by omega⟩, ⟨dbl_start, hd.1, hd.2⟩, D0⟩
   case round =>
    clear D0
    obtain ⟨M, m, gs, ga, gq, h, a, rk, rfl, rfl, rfl, HH, HI, D⟩ := hrel
    have ks : wr.cell? ⟨gs, 0, none⟩ = some (.int .i64 (h : Int)) := (zah D.out.e.s 0).trans rfl
    have kn : wr.cell? ⟨gn, 0, none⟩ = some (.int .i64 (x.size : Int)) := (zah D.out.e.n 0).trans rfl
    obtain ⟨b, hb⟩ : ∃ b, decide (h < x.size) = b := ⟨_, rfl⟩
    have tb : decide ((h : Int) < (x.size : Int)) = b := by rw [← hb]; exact decide_eq_decide.2 (by omega)
    go_upto_if 48 with (fail)
    go_cut [4] (fun v4 wc => ∃ (g2 : Nat) (a2 : List Nat), v4 = .slice (some ⟨g2, 0, none⟩) x.size x.size ∧ zaa (Perm0 x.size a2 ∧ a2.Pairwise (fun p q => pre (nb x) (h + h) p ≤ pre (nb x) (h + h) q)) ∧ zaa (D2 w gn gr gs g2 gq x.size h a2 rk wc))
    case first =>
     cases b with
     | true =>
      have hlt : h < x.size := of_decide_eq_true hb
      clear hb tb
      have hsec : ∀ p, p ∈ a → snd2 (nb x) h rk p < m := by
       intro p hp
       unfold snd2
       split
       ·have := HH.out.2.2.2.2.2; omega
       ·rename_i hne
        rw [zas] at hne
        exact HH.out.2.2.2.2.1 _ (by omega)
      have HSEC := zaa.mk hsec
      have hE2 := D.out.e
      rw [← zas] at hE2
      have HR2 := zaa.mk (rank2 (P := a) hE2 (by have := HH.out; omega) (by rw [zas]; have := HX.out; omega) (fun p hp => by rw [zas]; exact HI.out.2.1.lt p hp))
      have KC := zaa.mk (blk_Ck D.out.a HI.out.2.1.len (by have := HX.out; omega))
      have hord := dbl_ord HI.out.1 (a := a) (by rw [zas]; exact HI.out.2.1)
      rw [zas] at hord
      have HORD := zaa.mk hord
      have hp1 := csL_perm (rank := snd2 (nb x) h rk) HI.out.2.1
      have HP1 := zaa.mk hp1
      clear hlt hsec hE2 hord hp1
      go_wp2_with (first
       | (go_at_call 68; with_reducible refine (counted_at (some ⟨ga, 0, none⟩) x.size m x.size M a (snd2 (nb x) h rk) 70 Tryd.f70 #[.pointer (some ⟨gs, 0, none⟩), .pointer (some ⟨gn, 0, none⟩), .pointer (some ⟨gr, 0, none⟩)] wr HI.out.2.1.len HH.out.1 KC.out HSEC.out HR2.out Tryd.func70 (by kernel_rfl) rfl (by have := HX.out; omega) (by have := HH.out; omega)).mono ?_; rintro e w8 ⟨g8, rfl, hG, hK, hB⟩; have K8 := zaa.mk hK; have D8 := zaa.mk (D.out.below hB); have HR3 := zaa.mk (rank3 (P := csL a (snd2 (nb x) h rk)) D8.out.e.e (fun p hp => HP1.out.lt p hp)); have KC8 := zaa.mk (blk_Ck K8.out HP1.out.len (by have := HX.out; omega)); have HRM := zaa.mk (show ∀ p, p ∈ csL a (snd2 (nb x) h rk) → rk p < m from fun p hp => HH.out.2.2.2.2.1 p (HP1.out.lt p hp)); clear hG hK hB KC HR2 ks kn)
       | (go_at_call 68; with_reducible refine (counted_at (some ⟨g8, 0, none⟩) x.size m x.size M (csL a (snd2 (nb x) h rk)) rk 71 Tryd.f71 #[.pointer (some ⟨gr, 0, none⟩)] w8 HP1.out.len HH.out.1 KC8.out HRM.out HR3.out Tryd.func71 (by kernel_rfl) rfl (by have := HX.out; omega) (by have := HH.out; omega)).mono ?_; rintro e w9 ⟨g9, rfl, hG, hK, hB⟩; have D9 := zaa.mk (show D2 w gn gr gs g9 gq x.size h (csL (csL a (snd2 (nb x) h rk)) rk) rk w9 from ⟨D8.out.e.below hB, hK, D8.out.lr, Nat.le_trans D8.out.bl.size hG, zaf D8.out.bl hB⟩); clear hG hK hB))
      go_meet
      case rel => exact ⟨g9, _, rfl, HORD, D9⟩
     | false =>
      have hlt : ¬ h < x.size := of_decide_eq_false hb
      clear hb tb
      have hord : a.Pairwise (fun p q => pre (nb x) (h + h) p ≤ pre (nb x) (h + h) q) := by
       refine HI.out.2.2.imp (fun {p q} hpq => ?_)
       have e : ∀ p, pre (nb x) (h + h) p = pre (nb x) h p := by
        intro p
        unfold pre
        rw [List.take_of_length_le (by rw [List.length_drop, zas]; omega), List.take_of_length_le (by rw [List.length_drop, zas]; omega)]
       rw [e, e]
       exact hpq
      have HORD := zaa.mk (And.intro HI.out.2.1 hord)
      clear hlt hord
      go_wp2
      go_meet
      case rel => exact ⟨ga, a, rfl, HORD, D⟩
    case rest =>
     clear D ks kn
     obtain ⟨g2, a2, rfl, HO, D⟩ := hcut
     have kn : wc.cell? ⟨gn, 0, none⟩ = some (.int .i64 (x.size : Int)) := (zah D.out.e.n 0).trans rfl
     obtain ⟨fo, hfo⟩ : ∃ fo, fo = gk := ⟨gk, rfl⟩
     subst hfo
     go_wp2_with (first
      | ((with_reducible refine zay (N := 57) rfl ?_); refine zce rfl rfl x.size rfl rfl Tryd.underlying29 .i64 info3 (by decide) (by have := HX.out; omega) ?_; intro gx w3 G3 K3 B3; have D3 := zaa.mk (D.out.below B3.out); have NX := zaa.mk (show gn < gx ∧ gr < gx ∧ gs < gx ∧ g2 < gx ∧ gq < gx ∧ w.heap.size ≤ gx from (have hl := D.out.lt; have hg := G3.out; ⟨Nat.lt_of_lt_of_le hl.1 hg, Nat.lt_of_lt_of_le hl.2.1 hg, Nat.lt_of_lt_of_le hl.2.2.1 hg, Nat.lt_of_lt_of_le hl.2.2.2.1 hg, Nat.lt_of_lt_of_le hl.2.2.2.2.1 hg, Nat.le_trans hl.2.2.2.2.2 hg⟩))))
     have KX := zaa.mk (show Blk w3 gx .i64 3 (tabn x.size (fun y => (nxT (nb x) h a2 0 y : Int))) from by
      have hk := K3.out
      rw [zb8] at hk
      refine (congrArg (Blk _ gx .i64 3) (zbd (fun y hy => ?_))).mp hk
      unfold nxT
      rw [List.take_zero, if_neg (fun h => nomatch h)]; rfl)
     clear G3 K3 B3 D kn
     have HO2 := zaa.mk (show Perm0 (nb x).length a2 ∧ a2.Pairwise (fun p q => pre (nb x) (h + h) p ≤ pre (nb x) (h + h) q) from by rw [zas]; exact HO.out)
     have hsc : ∀ p, p < x.size → ∀ W, Env2 gs gn gr gq x.size h rk W → Calls Tryd.prog 70 #[.int .i64 (p : Int), .pointer (some ⟨gs, 0, none⟩), .pointer (some ⟨gn, 0, none⟩), .pointer (some ⟨gr, 0, none⟩)] W fun e w' => e = .returned (.int .i64 (snd2 (nb x) h rk p : Int)) ∧ Below W.heap.size W w' := by
      intro p hp W hE
      rw [← zas] at hE hp
      exact second_ok gs gn gr gq h p (nb x) rk W hE hp (by have := HH.out; omega) (by rw [zas]; have := HX.out; omega)
     have HSC := zaa.mk hsc
     clear hsc
     go_loopg [7, 60] x.size (fun q v7 v60 w' => ∃ (M L : Int) (i : Nat), v7 = .int .i64 M ∧ v60 = .int .i64 L ∧ zaa (L = (i : Int) ∧ i + q = x.size ∧ M = (mny (nb x) h a2 i : Int)) ∧ zaa (D2 w gn gr gs g2 gq x.size h a2 rk w') ∧ zaa (Blk w' gx .i64 3 (tabn x.size (fun y => (nxT (nb x) h a2 i y : Int)))))
     case atStart => exact ⟨1, 0, 0, rfl, rfl, ⟨rfl, by omega, rfl⟩, D3, KX⟩
     case round =>
      clear D3 KX
      obtain ⟨M, L, i, rfl, rfl, HL, D, B⟩ := hrel
      cases gk with
      | zero =>
       have ei : i = x.size := by have := HL.out; omega
       have t1 : decide (L < (x.size : Int)) = false := decide_eq_false (by have := HL.out; omega)
       obtain ⟨mm, hmm⟩ : ∃ mm, mny (nb x) h a2 x.size = mm := ⟨_, rfl⟩
       obtain rfl : M = (mm : Int) := by rw [HL.out.2.2, ei, hmm]
       have hst := dbl_stop (x := nb x) (h := h) HO2.out.1 HO2.out.2
       have hmo := dbl_more (x := nb x) (h := h) HI.out.1.h1 HO2.out.1 HO2.out.2
       rw [zas, hmm] at hst hmo
       have hmle : mny (nb x) h a2 x.size ≤ x.size + 1 := mny_le HO2.out.1 HO2.out.2 (by rw [zas]; omega)
       rw [hmm] at hmle
       have kr := (zah D.out.e.e.r 0).trans (rfl : _ = some (Value.slice (some ⟨gq, 0, none⟩) x.size x.size))
       have kf := zao D.out.e.e.r 0
       have HT := zaa.mk hmle
       by_cases hA : x.size < mm
       ·have u1 : decide ((x.size : Int) < (mm : Int)) = true := decide_eq_true (by omega)
        have u2 : decide (x.size < mm) = true := decide_eq_true hA
        have HS := zaa.mk (hst (.inl hA))
        have DN := zaa.mk (D.out.next (rk' := nxT (nb x) h a2 i) (Nat.ne_of_lt NX.out.2.1) B.out)
        have kn := (zah DN.out.e.n 0).trans (rfl : _ = some (Value.int .i64 (x.size : Int)))
        have ks := (zah DN.out.e.s 0).trans (rfl : _ = some (Value.int .i64 (h : Int)))
        clear hst hmo hmle hmm ei
        go_wp2
        go_ret
        exact ⟨g2, a2, rfl, DN.out.la, DN.out.a, HS.out, DN.out.bl⟩
       ·have u1 : decide ((x.size : Int) < (mm : Int)) = false := decide_eq_false (by omega)
        have u2 : decide (x.size < mm) = false := decide_eq_false hA
        by_cases hB : x.size ≤ h
        ·have u3 : decide ((x.size : Int) ≤ (h : Int)) = true := decide_eq_true (by omega)
         have u4 : decide (x.size ≤ h) = true := decide_eq_true hB
         have HS := zaa.mk (hst (.inr hB))
         have DN := zaa.mk (D.out.next (rk' := nxT (nb x) h a2 i) (Nat.ne_of_lt NX.out.2.1) B.out)
         have kn := (zah DN.out.e.n 0).trans (rfl : _ = some (Value.int .i64 (x.size : Int)))
         have ks := (zah DN.out.e.s 0).trans (rfl : _ = some (Value.int .i64 (h : Int)))
         clear hst hmo hmle hmm ei
         go_wp2
         go_ret
         exact ⟨g2, a2, rfl, DN.out.la, DN.out.a, HS.out, DN.out.bl⟩
        ·have u3 : decide ((x.size : Int) ≤ (h : Int)) = false := decide_eq_false (by omega)
         have u4 : decide (x.size ≤ h) = false := decide_eq_false hB
         obtain ⟨hd, hlt, hnx⟩ := hmo hA
         have DN := zaa.mk (D.out.next (rk' := fun p => (stD (nb x) h a2 x.size).1 p + 1) (Nat.ne_of_lt NX.out.2.1) (by
          refine (congrArg (Blk _ gx .i64 3) (zbd (fun y hy => ?_))).mp B.out
          rw [ei, hnx y hy]))
         have kn := (zah DN.out.e.n 0).trans (rfl : _ = some (Value.int .i64 (x.size : Int)))
         have ks := (zah DN.out.e.s 0).trans (rfl : _ = some (Value.int .i64 (h : Int)))
         obtain ⟨h2, hh2⟩ : ∃ h2, h + h = h2 := ⟨_, rfl⟩
         rw [hh2] at hd
         have HD2 := zaa.mk (And.intro hd hlt)
         have HO3 := zaa.mk HO.out
         rw [hh2] at HO3
         have e1 : wrap64 ((h : Int) * 2) = (h2 : Int) := by have := HH.out; rw [w64 (by omega) (by omega)]; omega
         have HB := zaa.mk (And.intro hh2 hB)
         clear hst hmo hmle hmm ei hd hlt hnx hh2 hA hB
         cases fo with
         | zero => exact absurd HH.out.2.1 (by have := HB.out; omega)
         | succ fq =>
          go_wp2_with (first
           | ((with_reducible refine zay (N := 8) rfl ?_); refine alloc_var rfl rfl info3 rfl ?_; intro gs1 w9 G9 X9 B9; have kc9 := (zah X9.out 0).trans (rfl : _ = some (Value.int .i64 0)); have kf9 := zao X9.out 0; have X10 := zaa.mk (blk_set X9.out 0 (.int .i64 (h : Int))); have kc10 := (zah X10.out 0).trans (rfl : _ = some (Value.int .i64 (h : Int))); have kf10 := zao X10.out 0))
          go_roundg fq
          case measure => omega
          case rel =>
           try rw [e1]
           exact ⟨(mm : Int), mm, gs1, g2, gx, h2, a2, _, rfl, rfl, rfl, ⟨rfl, by have := HI.out.1.h1; have := HH.out.2.1; have := HB.out; omega, by have := HX.out; have := HB.out; omega, by have := HX.out; have := HT.out; omega, HD2.out.2, Nat.lt_of_le_of_lt (Nat.zero_le _) (HD2.out.2 0 (by have := HB.out.2; omega))⟩, ⟨HD2.out.1, HO3.out.1, HO3.out.2⟩, ⟨DN.out.step G9.out B9.out X9.out _⟩⟩
      | succ q =>
       obtain rfl : L = (i : Int) := HL.out.1
       have hin : i < x.size := by have := HL.out; omega
       have t1 : decide ((i : Int) < (x.size : Int)) = true := decide_eq_true (by omega)
       have t2 : decide (i < x.size) = true := decide_eq_true hin
       have p1 : ((i : Int) < (x.size : Int)) = True := eq_true (by omega)
       have p2 : (i < x.size) = True := eq_true hin
       have e1 : wrap64 ((i : Int) + 1) = ((i + 1 : Nat) : Int) := by have := HX.out; rw [w64 (by omega) (by omega)]; omega
       obtain ⟨p, hp⟩ : ∃ p, a2[i]? = some p := ⟨_, List.getElem?_eq_getElem (by have := HO.out.1.len; rw [this]; exact hin)⟩
       have hpx : p < x.size := HO.out.1.lt p (List.mem_of_getElem? hp)
       have k1 := a_cell D.out.a hp
       have p3 : ((p : Int) < (x.size : Int)) = True := eq_true (Int.ofNat_lt.2 hpx)
       have p4 : (p < x.size) = True := eq_true hpx
       obtain ⟨m', hm1, hm2, hm3⟩ := nx_step (x := nb x) (h := h) hp
       obtain ⟨m1, hq1⟩ : ∃ m1, m' + 1 = m1 := ⟨_, rfl⟩
       obtain ⟨m2, hq2⟩ : ∃ m2, m1 + 1 = m2 := ⟨_, rfl⟩
       have hm2 : mny (nb x) h a2 (i + 1) = m2 := by omega
       rw [hq1] at hm3
       have hle : mny (nb x) h a2 (i + 1) ≤ i + 1 + 1 := mny_le HO2.out.1 HO2.out.2 (by rw [zas]; omega)
       have e2 : wrap64 ((m2 : Int) - 1) = (m1 : Int) := by have := HX.out; rw [w64 (by omega) (by omega)]; omega
       have HP := zaa.mk hpx
       obtain ⟨mi, hmi⟩ : ∃ mi, mny (nb x) h a2 i = mi := ⟨_, rfl⟩
       rw [hmi] at HL
       obtain rfl : M = (mi : Int) := HL.out.2.2
       have e3 : mi + 1 = m2 → wrap64 ((mi : Int) + 1) = (m2 : Int) := fun e => by have := HX.out; rw [w64 (by omega) (by omega)]; omega
       have HM := zaa.mk (And.intro hm2 hm3)
       rcases Nat.eq_zero_or_pos i with hi0 | hi0
       ·have hm0 : mi = 1 := by rw [← hmi, hi0]; rfl
        have hz := nx_first (x := nb x) (h := h) (show a2[0]? = some p from by rw [← hi0]; exact hp)
        rw [hi0] at hm1
        have e4 := e3 (by omega)
        have tz : ((i : Int) == 0) = true := by rw [hi0]; rfl
        have tz2 : decide ((i : Int) = 0) = true := by rw [hi0]; rfl
        have tz3 : decide (i = 0) = true := by rw [hi0]; rfl
        clear e3 hm0 hz hm1 hm2 hm3 hq1 hq2 hle hmi hin hp hpx hi0
        go_wp2
        refine zcr (n := 28) (S := fun w' => True) (ds := []) #[false, false, false, false, false, false, false, false, false, false, false, false, false, false, false, false, false, false, false, false, false, false, false, false, false, false, false, false] (by kernel_rfl) rfl rfl trivial (fun hHeld => ?_)
        refine pure_ (i := 0) (N := some 65) (v := ?_) (a' := ?_) #[true, false, false, false, false, false, false, false, false, false, false, false, false, false, false, false, false, false, false, false, false, false, false, false, false, false, false, false] rfl rfl (by kernel_rfl) (fun _ _ _ h => h) (Or.inl ⟨by rfl, ?_⟩) ?_ ?_
        rotate_left
        ·intro w'
         go_simp
         with_reducible rfl
        rotate_left
        ·simp only [Act.put, sAt, sZr, sSc, i64_w, i32_w]
         rfl
        refine pure_ (i := 1) (N := some 66) (v := ?_) (a' := ?_) #[true, true, false, false, false, false, false, false, false, false, false, false, false, false, false, false, false, false, false, false, false, false, false, false, false, false, false, false] rfl rfl (by kernel_rfl) (fun _ _ _ h => h) (Or.inl ⟨by rfl, ?_⟩) ?_ ?_
        rotate_left
        ·intro w'
         go_simp
         with_reducible rfl
        rotate_left
        ·simp only [Act.put, sAt, sZr, sSc, i64_w, i32_w]
         rfl
        refine pure_ (i := 2) (N := some 67) (v := ?_) (a' := ?_) #[true, true, true, false, false, false, false, false, false, false, false, false, false, false, false, false, false, false, false, false, false, false, false, false, false, false, false, false] rfl rfl (by kernel_rfl) (fun _ _ _ h => h) (Or.inl ⟨by rfl, ?_⟩) ?_ ?_
        rotate_left
        ·intro w'
         go_simp
         with_reducible rfl
        rotate_left
        ·simp only [Act.put, sAt, sZr, sSc, i64_w, i32_w]
         rfl
        refine pure_ (i := 3) (N := some 68) (v := undef) (a' := ?_) #[true, true, true, true, false, false, false, false, false, false, false, false, false, false, false, false, false, false, false, false, false, false, false, false, false, false, false, false] rfl rfl (by kernel_rfl) (fun _ _ _ h => h) (Or.inr ⟨by rfl, rfl⟩) ?_ ?_
        rotate_left
        ·simp only [Act.put, sAt, sZr, sSc, i64_w, i32_w]
         rfl
        refine pure_ (i := 4) (N := some 69) (v := undef) (a' := ?_) #[true, true, true, true, true, false, false, false, false, false, false, false, false, false, false, false, false, false, false, false, false, false, false, false, false, false, false, false] rfl rfl (by kernel_rfl) (fun _ _ _ h => h) (Or.inr ⟨by rfl, rfl⟩) ?_ ?_
        rotate_left
        ·simp only [Act.put, sAt, sZr, sSc, i64_w, i32_w]
         rfl
        refine pure_ (i := 5) (N := some 70) (v := undef) (a' := ?_) #[true, true, true, true, true, true, false, false, false, false, false, false, false, false, false, false, false, false, false, false, false, false, false, false, false, false, false, false] rfl rfl (by kernel_rfl) (fun _ _ _ h => h) (Or.inr ⟨by rfl, rfl⟩) ?_ ?_
        rotate_left
        ·simp only [Act.put, sAt, sZr, sSc, i64_w, i32_w]
         rfl
        refine pure_ (i := 6) (N := some 71) (v := undef) (a' := ?_) #[true, true, true, true, true, true, true, false, false, false, false, false, false, false, false, false, false, false, false, false, false, false, false, false, false, false, false, false] rfl rfl (by kernel_rfl) (fun _ _ _ h => h) (Or.inr ⟨by rfl, rfl⟩) ?_ ?_
        rotate_left
        ·simp only [Act.put, sAt, sZr, sSc, i64_w, i32_w]
         rfl
        refine pure_ (i := 7) (N := some 72) (v := undef) (a' := ?_) #[true, true, true, true, true, true, true, true, false, false, false, false, false, false, false, false, false, false, false, false, false, false, false, false, false, false, false, false] rfl rfl (by kernel_rfl) (fun _ _ _ h => h) (Or.inr ⟨by rfl, rfl⟩) ?_ ?_
        rotate_left
        ·simp only [Act.put, sAt, sZr, sSc, i64_w, i32_w]
         rfl
        refine pure_ (i := 8) (N := some 73) (v := undef) (a' := ?_) #[true, true, true, true, true, true, true, true, true, false, false, false, false, false, false, false, false, false, false, false, false, false, false, false, false, false, false, false] rfl rfl (by kernel_rfl) (fun _ _ _ h => h) (Or.inr ⟨by rfl, rfl⟩) ?_ ?_
        rotate_left
        ·simp only [Act.put, sAt, sZr, sSc, i64_w, i32_w]
         rfl
        refine pure_ (i := 9) (N := some 74) (v := undef) (a' := ?_) #[true, true, true, true, true, true, true, true, true, true, false, false, false, false, false, false, false, false, false, false, false, false, false, false, false, false, false, false] rfl rfl (by kernel_rfl) (fun _ _ _ h => h) (Or.inr ⟨by rfl, rfl⟩) ?_ ?_
        rotate_left
        ·simp only [Act.put, sAt, sZr, sSc, i64_w, i32_w]
         rfl
        refine pure_ (i := 10) (N := some 75) (v := undef) (a' := ?_) #[true, true, true, true, true, true, true, true, true, true, true, false, false, false, false, false, false, false, false, false, false, false, false, false, false, false, false, false] rfl rfl (by kernel_rfl) (fun _ _ _ h => h) (Or.inr ⟨by rfl, rfl⟩) ?_ ?_
        rotate_left
        ·simp only [Act.put, sAt, sZr, sSc, i64_w, i32_w]
         rfl
        refine pure_ (i := 11) (N := some 76) (v := undef) (a' := ?_) #[true, true, true, true, true, true, true, true, true, true, true, true, false, false, false, false, false, false, false, false, false, false, false, false, false, false, false, false] rfl rfl (by kernel_rfl) (fun _ _ _ h => h) (Or.inr ⟨by rfl, rfl⟩) ?_ ?_
        rotate_left
        ·simp only [Act.put, sAt, sZr, sSc, i64_w, i32_w]
         rfl
        refine pure_ (i := 12) (N := some 77) (v := undef) (a' := ?_) #[true, true, true, true, true, true, true, true, true, true, true, true, true, false, false, false, false, false, false, false, false, false, false, false, false, false, false, false] rfl rfl (by kernel_rfl) (fun _ _ _ h => h) (Or.inr ⟨by rfl, rfl⟩) ?_ ?_
        rotate_left
        ·simp only [Act.put, sAt, sZr, sSc, i64_w, i32_w]
         rfl
        refine pure_ (i := 13) (N := some 78) (v := undef) (a' := ?_) #[true, true, true, true, true, true, true, true, true, true, true, true, true, true, false, false, false, false, false, false, false, false, false, false, false, false, false, false] rfl rfl (by kernel_rfl) (fun _ _ _ h => h) (Or.inr ⟨by rfl, rfl⟩) ?_ ?_
        rotate_left
        ·simp only [Act.put, sAt, sZr, sSc, i64_w, i32_w]
         rfl
        refine pure_ (i := 14) (N := some 79) (v := ?_) (a' := ?_) #[true, true, true, true, true, true, true, true, true, true, true, true, true, true, true, false, false, false, false, false, false, false, false, false, false, false, false, false] rfl rfl (by kernel_rfl) (fun _ _ _ h => h) (Or.inl ⟨by rfl, ?_⟩) ?_ ?_
        rotate_left
        ·intro w'
         go_simp
         with_reducible rfl
        rotate_left
        ·simp only [Act.put, sAt, sZr, sSc, i64_w, i32_w]
         rfl
        refine pure_ (i := 15) (N := some 80) (v := ?_) (a' := ?_) #[true, true, true, true, true, true, true, true, true, true, true, true, true, true, true, true, false, false, false, false, false, false, false, false, false, false, false, false] rfl rfl (by kernel_rfl) (fun _ _ _ h => h) (Or.inl ⟨by rfl, ?_⟩) ?_ ?_
        rotate_left
        ·intro w'
         go_simp
         with_reducible rfl
        rotate_left
        ·simp only [Act.put, sAt, sZr, sSc, i64_w, i32_w]
         rfl
        refine pure_ (i := 16) (N := some 81) (v := undef) (a' := ?_) #[true, true, true, true, true, true, true, true, true, true, true, true, true, true, true, true, true, false, false, false, false, false, false, false, false, false, false, false] rfl rfl (by kernel_rfl) (fun _ _ _ h => h) (Or.inr ⟨by rfl, rfl⟩) ?_ ?_
        rotate_left
        ·simp only [Act.put, sAt, sZr, sSc, i64_w, i32_w]
         rfl
        refine pure_ (i := 17) (N := some 82) (v := undef) (a' := ?_) #[true, true, true, true, true, true, true, true, true, true, true, true, true, true, true, true, true, true, false, false, false, false, false, false, false, false, false, false] rfl rfl (by kernel_rfl) (fun _ _ _ h => h) (Or.inr ⟨by rfl, rfl⟩) ?_ ?_
        rotate_left
        ·simp only [Act.put, sAt, sZr, sSc, i64_w, i32_w]
         rfl
        refine pure_ (i := 18) (N := some 83) (v := undef) (a' := ?_) #[true, true, true, true, true, true, true, true, true, true, true, true, true, true, true, true, true, true, true, false, false, false, false, false, false, false, false, false] rfl rfl (by kernel_rfl) (fun _ _ _ h => h) (Or.inr ⟨by rfl, rfl⟩) ?_ ?_
        rotate_left
        ·simp only [Act.put, sAt, sZr, sSc, i64_w, i32_w]
         rfl
        refine pure_ (i := 19) (N := some 84) (v := undef) (a' := ?_) #[true, true, true, true, true, true, true, true, true, true, true, true, true, true, true, true, true, true, true, true, false, false, false, false, false, false, false, false] rfl rfl (by kernel_rfl) (fun _ _ _ h => h) (Or.inr ⟨by rfl, rfl⟩) ?_ ?_
        rotate_left
        ·simp only [Act.put, sAt, sZr, sSc, i64_w, i32_w]
         rfl
        refine pure_ (i := 20) (N := some 85) (v := undef) (a' := ?_) #[true, true, true, true, true, true, true, true, true, true, true, true, true, true, true, true, true, true, true, true, true, false, false, false, false, false, false, false] rfl rfl (by kernel_rfl) (fun _ _ _ h => h) (Or.inr ⟨by rfl, rfl⟩) ?_ ?_
        rotate_left
        ·simp only [Act.put, sAt, sZr, sSc, i64_w, i32_w]
         rfl
        refine pure_ (i := 21) (N := some 86) (v := undef) (a' := ?_) #[true, true, true, true, true, true, true, true, true, true, true, true, true, true, true, true, true, true, true, true, true, true, false, false, false, false, false, false] rfl rfl (by kernel_rfl) (fun _ _ _ h => h) (Or.inr ⟨by rfl, rfl⟩) ?_ ?_
        rotate_left
        ·simp only [Act.put, sAt, sZr, sSc, i64_w, i32_w]
         rfl
        refine pure_ (i := 22) (N := some 87) (v := undef) (a' := ?_) #[true, true, true, true, true, true, true, true, true, true, true, true, true, true, true, true, true, true, true, true, true, true, true, false, false, false, false, false] rfl rfl (by kernel_rfl) (fun _ _ _ h => h) (Or.inr ⟨by rfl, rfl⟩) ?_ ?_
        rotate_left
        ·simp only [Act.put, sAt, sZr, sSc, i64_w, i32_w]
         rfl
        refine pure_ (i := 23) (N := some 88) (v := undef) (a' := ?_) #[true, true, true, true, true, true, true, true, true, true, true, true, true, true, true, true, true, true, true, true, true, true, true, true, false, false, false, false] rfl rfl (by kernel_rfl) (fun _ _ _ h => h) (Or.inr ⟨by rfl, rfl⟩) ?_ ?_
        rotate_left
        ·simp only [Act.put, sAt, sZr, sSc, i64_w, i32_w]
         rfl
        refine pure_ (i := 24) (N := some 89) (v := undef) (a' := ?_) #[true, true, true, true, true, true, true, true, true, true, true, true, true, true, true, true, true, true, true, true, true, true, true, true, true, false, false, false] rfl rfl (by kernel_rfl) (fun _ _ _ h => h) (Or.inr ⟨by rfl, rfl⟩) ?_ ?_
        rotate_left
        ·simp only [Act.put, sAt, sZr, sSc, i64_w, i32_w]
         rfl
        refine pure_ (i := 25) (N := some 90) (v := undef) (a' := ?_) #[true, true, true, true, true, true, true, true, true, true, true, true, true, true, true, true, true, true, true, true, true, true, true, true, true, true, false, false] rfl rfl (by kernel_rfl) (fun _ _ _ h => h) (Or.inr ⟨by rfl, rfl⟩) ?_ ?_
        rotate_left
        ·simp only [Act.put, sAt, sZr, sSc, i64_w, i32_w]
         rfl
        refine pure_ (i := 26) (N := some 91) (v := undef) (a' := ?_) #[true, true, true, true, true, true, true, true, true, true, true, true, true, true, true, true, true, true, true, true, true, true, true, true, true, true, true, false] rfl rfl (by kernel_rfl) (fun _ _ _ h => h) (Or.inr ⟨by rfl, rfl⟩) ?_ ?_
        rotate_left
        ·simp only [Act.put, sAt, sZr, sSc, i64_w, i32_w]
         rfl
        refine pure_ (i := 27) (N := some 92) (v := ?_) (a' := ?_) #[true, true, true, true, true, true, true, true, true, true, true, true, true, true, true, true, true, true, true, true, true, true, true, true, true, true, true, true] rfl rfl (by kernel_rfl) (fun _ _ _ h => h) (Or.inl ⟨by rfl, ?_⟩) ?_ ?_
        rotate_left
        ·intro w'
         go_simp
         with_reducible rfl
        rotate_left
        ·simp only [Act.put, sAt, sZr, sSc, i64_w, i32_w]
         rfl
        refine done_ (by kernel_rfl) ?_
        have DW := zaa.mk (D.out.below (zbl (Below.refl _ _)))
        have BW := zaa.mk (B.out.drew)
        clear hHeld
        have kf := BW.out.free p
        have kg := BW.out.cell p (by rw [za2]; exact HP.out)
        rw [zbr HP.out] at kg
        go_wp2
        go_roundg q
        case measure => omega
        case rel =>
         refine ⟨(m2 : Int), ((i + 1 : Nat) : Int), i + 1, by first | rfl | simp only [e4] | (rw [e4]), by first | rfl | simp only [e1] | (rw [e1]), ⟨rfl, by have := HL.out; omega, by rw [HM.out.1]⟩, ⟨DW.out.set NX.out p _⟩, ⟨?_⟩⟩
         try rw [e2]
         refine zb7 BW.out (fun y hy => ?_)
         rw [HM.out.2 y]
         by_cases e : y = p
         ·rw [if_pos e, if_pos e]
         ·rw [if_neg e, if_neg e]
       ·obtain ⟨im, him⟩ : ∃ im, im + 1 = i := ⟨i - 1, by omega⟩
        obtain ⟨y, hy⟩ : ∃ y, a2[im]? = some y := ⟨_, List.getElem?_eq_getElem (by have := HO.out.1.len; rw [this]; omega)⟩
        have hyx : y < x.size := HO.out.1.lt y (List.mem_of_getElem? hy)
        have HY := zaa.mk hyx
        have HY4 := zaa.mk hy
        have hmm := nx_more (x := nb x) (h := h) HO2.out.1 HO2.out.2 (i := im) (p := p) (y := y) (by rw [him]; exact hp) hy
        rw [him, hm1] at hmm
        have hsame := dbl_same HI.out.1 (p := p) (q := y) (by rw [zas]; exact hpx) (by rw [zas]; exact hyx)
        have hmi2 : mi = (stD (nb x) h a2 i).2.1 + 2 := by rw [← hmi]; unfold mny; rw [if_neg (by omega)]
        obtain ⟨rp, hrp⟩ : ∃ rp, rk p = rp := ⟨_, rfl⟩
        obtain ⟨ry, hry⟩ : ∃ ry, rk y = ry := ⟨_, rfl⟩
        obtain ⟨sp, hsp⟩ : ∃ sp, snd2 (nb x) h rk p = sp := ⟨_, rfl⟩
        obtain ⟨sy, hsy⟩ : ∃ sy, snd2 (nb x) h rk y = sy := ⟨_, rfl⟩
        have HV := zaa.mk (show rk p = rp ∧ rk y = ry ∧ snd2 (nb x) h rk p = sp ∧ snd2 (nb x) h rk y = sy from ⟨hrp, hry, hsp, hsy⟩)
        rw [hrp, hry, hsp, hsy] at hsame
        have k4 := a_cell D.out.a hy
        have tz : ((i : Int) == 0) = false := beq_false_of_ne (by omega)
        have tz2 : decide ((i : Int) = 0) = false := decide_eq_false (by omega)
        have tz3 : decide (i = 0) = false := decide_eq_false (by omega)
        have e5 : wrap64 ((i : Int) - 1) = (im : Int) := by have := HX.out; rw [w64 (by omega) (by omega)]; omega
        have e6 : IntKind.i64.wrap ((i : Int) - 1) = (im : Int) := (i64_w _).trans e5
        have p5 : ((im : Int) < (x.size : Int)) = True := eq_true (Int.ofNat_lt.2 (by omega))
        have p6 : (im < x.size) = True := eq_true (by omega)
        by_cases hr : rp = ry
        ·by_cases hs : sp = sy
         ·rw [if_pos (hsame.1 ⟨hr, hs⟩).symm] at hmm
          have e4 : mi = m2 := by omega
          have tr : ((rp : Int) != (ry : Int)) = false := by simp; omega
          have tr2 : decide ((rp : Int) = (ry : Int)) = true := decide_eq_true (by omega)
          have tr3 : decide (rp = ry) = true := decide_eq_true hr
          have ts : ((sp : Int) != (sy : Int)) = false := by simp; omega
          have ts2 : decide ((sp : Int) = (sy : Int)) = true := decide_eq_true (by omega)
          have ts3 : decide (sp = sy) = true := decide_eq_true hs
          subst e4
          clear e3 hm1 hm2 hm3 hq1 hq2 hle hmi hin hp hpx hi0 him hy hyx hmm hsame hmi2 hrp hry hsp hsy hr hs
          go_wp2
          refine zcr (n := 28) (S := fun w' => w'.cell? ⟨g2, im, none⟩ = some (.int .i64 (y : Int))) (ds := []) #[false, false, false, false, false, false, false, false, false, false, false, false, false, false, false, false, false, false, false, false, false, false, false, false, false, false, false, false] (by kernel_rfl) rfl rfl (k4) (fun hHeld => ?_)
          refine pure_ (i := 0) (N := some 65) (v := ?_) (a' := ?_) #[true, false, false, false, false, false, false, false, false, false, false, false, false, false, false, false, false, false, false, false, false, false, false, false, false, false, false, false] rfl rfl (by kernel_rfl) (fun _ _ _ h => h) (Or.inl ⟨by rfl, ?_⟩) ?_ ?_
          rotate_left
          ·intro w'
           go_simp
           with_reducible rfl
          rotate_left
          ·simp only [Act.put, sAt, sZr, sSc, i64_w, i32_w]
           rfl
          refine pure_ (i := 1) (N := some 66) (v := ?_) (a' := ?_) #[true, true, false, false, false, false, false, false, false, false, false, false, false, false, false, false, false, false, false, false, false, false, false, false, false, false, false, false] rfl rfl (by kernel_rfl) (fun _ _ _ h => h) (Or.inl ⟨by rfl, ?_⟩) ?_ ?_
          rotate_left
          ·intro w'
           go_simp
           with_reducible rfl
          rotate_left
          ·simp only [Act.put, sAt, sZr, sSc, i64_w, i32_w]
           rfl
          refine pure_ (i := 2) (N := some 67) (v := ?_) (a' := ?_) #[true, true, true, false, false, false, false, false, false, false, false, false, false, false, false, false, false, false, false, false, false, false, false, false, false, false, false, false] rfl rfl (by kernel_rfl) (fun _ _ _ h => h) (Or.inl ⟨by rfl, ?_⟩) ?_ ?_
          rotate_left
          ·intro w'
           go_simp
           with_reducible rfl
          rotate_left
          ·simp only [Act.put, sAt, sZr, sSc, i64_w, i32_w]
           rfl
          refine pure_ (i := 3) (N := some 68) (v := ?_) (a' := ?_) #[true, true, true, true, false, false, false, false, false, false, false, false, false, false, false, false, false, false, false, false, false, false, false, false, false, false, false, false] rfl rfl (by kernel_rfl) (fun _ _ _ h => h) (Or.inl ⟨by rfl, ?_⟩) ?_ ?_
          rotate_left
          ·intro w'
           go_simp
           with_reducible rfl
          rotate_left
          ·simp only [Act.put, sAt, sZr, sSc, i64_w, i32_w]
           rfl
          refine pure_ (i := 4) (N := some 69) (v := ?_) (a' := ?_) #[true, true, true, true, true, false, false, false, false, false, false, false, false, false, false, false, false, false, false, false, false, false, false, false, false, false, false, false] rfl rfl (by kernel_rfl) (fun _ _ _ h => h) (Or.inl ⟨by rfl, ?_⟩) ?_ ?_
          rotate_left
          ·intro w'
           go_simp
           with_reducible rfl
          rotate_left
          ·simp only [Act.put, sAt, sZr, sSc, i64_w, i32_w]
           rfl
          refine pure_ (i := 6) (N := some 71) (v := ?_) (a' := ?_) #[true, true, true, true, true, false, true, false, false, false, false, false, false, false, false, false, false, false, false, false, false, false, false, false, false, false, false, false] rfl rfl (by kernel_rfl) (fun _ _ _ h => h) (Or.inl ⟨by rfl, ?_⟩) ?_ ?_
          rotate_left
          ·intro w'
           go_simp
           with_reducible rfl
          rotate_left
          ·simp only [Act.put, sAt, sZr, sSc, i64_w, i32_w]
           rfl
          refine pure_ (i := 7) (N := some 72) (v := ?_) (a' := ?_) #[true, true, true, true, true, false, true, true, false, false, false, false, false, false, false, false, false, false, false, false, false, false, false, false, false, false, false, false] rfl rfl (by kernel_rfl) (fun _ _ _ h => h) (Or.inl ⟨by rfl, ?_⟩) ?_ ?_
          rotate_left
          ·intro w'
           go_simp
           with_reducible rfl
          rotate_left
          ·simp only [Act.put, sAt, sZr, sSc, i64_w, i32_w]
           rfl
          refine pure_ (i := 8) (N := some 73) (v := ?_) (a' := ?_) #[true, true, true, true, true, false, true, true, true, false, false, false, false, false, false, false, false, false, false, false, false, false, false, false, false, false, false, false] rfl rfl (by kernel_rfl) (fun _ _ _ h => h) (Or.inl ⟨by rfl, ?_⟩) ?_ ?_
          rotate_left
          ·intro w'
           go_simp
           with_reducible rfl
          rotate_left
          ·simp only [Act.put, sAt, sZr, sSc, i64_w, i32_w]
           rfl
          refine pure_ (i := 9) (N := some 74) (v := ?_) (a' := ?_) #[true, true, true, true, true, false, true, true, true, true, false, false, false, false, false, false, false, false, false, false, false, false, false, false, false, false, false, false] rfl rfl (by kernel_rfl) (fun _ _ _ h => h) (Or.inl ⟨by rfl, ?_⟩) ?_ ?_
          rotate_left
          ·intro w'
           go_simp
           with_reducible rfl
          rotate_left
          ·simp only [Act.put, sAt, sZr, sSc, i64_w, i32_w]
           rfl
          refine pure_ (i := 10) (N := some 75) (v := ?_) (a' := ?_) #[true, true, true, true, true, false, true, true, true, true, true, false, false, false, false, false, false, false, false, false, false, false, false, false, false, false, false, false] rfl rfl (by kernel_rfl) (fun _ _ _ h => h) (Or.inl ⟨by rfl, ?_⟩) ?_ ?_
          rotate_left
          ·intro w'
           go_simp
           with_reducible rfl
          rotate_left
          ·simp only [Act.put, sAt, sZr, sSc, i64_w, i32_w]
           rfl
          refine take_ (i := 11) (N := some 76) (v := ?_) (a' := ?_) #[true, true, true, true, true, false, true, true, true, true, true, true, false, false, false, false, false, false, false, false, false, false, false, false, false, false, false, false] rfl rfl (by kernel_rfl) (fun _ _ _ h => h) (Or.inl ⟨by rfl, ?_⟩) hHeld ?_ ?_
          rotate_left
          ·intro w' s0
           go_simp
           with_reducible rfl
          rotate_left
          ·simp only [Act.put, sAt, sZr, sSc, i64_w, i32_w]
           rfl
          refine one_ (i := 5) (N := some 70) #[true, true, true, true, true, true, true, true, true, true, true, true, false, false, false, false, false, false, false, false, false, false, false, false, false, false, false, false] rfl rfl (by kernel_rfl) (by decide) (fun K hK => ?_)
          refine goesVd_ Tryd.func71 (by kernel_rfl) rfl #[.int .i64 (p : Int), .pointer (some ⟨gr, 0, none⟩)] (by rfl) rfl rfl rfl (by simp [go_sem]) ?_
          refine (first3_ok gr gq x.size p rk wr.drew (D.out.below (zbl (Below.refl _ _))).e.e HP.out).mono ?_
          rintro e w11 ⟨rfl, hB⟩
          refine ⟨_, rfl, ?_⟩
          rw [HV.out.1]
          have D11 := zaa.mk ((D.out.below (zbl (Below.refl _ _))).below hB)
          have B11 := zaa.mk ((B.out.below (zbl (Below.refl _ _))).below hB)
          have k4_11 := a_cell D11.out.a HY4.out
          clear hB
          refine hK.out _ _ (k4_11) (fun hHeld => ?_)
          clear hK K
          refine norm_ (a' := ?_) ?_ ?_
          rotate_left
          ·show Act.put _ (some 70) _ = _
           simp only [Act.put, sAt, sZr, sSc, i64_w, i32_w]
           rfl
          refine one_ (i := 12) (N := some 77) #[true, true, true, true, true, true, true, true, true, true, true, true, true, false, false, false, false, false, false, false, false, false, false, false, false, false, false, false] rfl rfl (by kernel_rfl) (by decide) (fun K hK => ?_)
          refine goesVd_ Tryd.func71 (by kernel_rfl) rfl #[.int .i64 (y : Int), .pointer (some ⟨gr, 0, none⟩)] (by rfl) rfl rfl rfl (by simp [go_sem]) ?_
          refine (first3_ok gr gq x.size y rk w11 D11.out.e.e HY.out).mono ?_
          rintro e w12 ⟨rfl, hB⟩
          refine ⟨_, rfl, ?_⟩
          rw [HV.out.2.1]
          have D12 := zaa.mk (D11.out.below hB)
          have B12 := zaa.mk (B11.out.below hB)
          have k4_12 := a_cell D12.out.a HY4.out
          clear hB
          refine hK.out _ _ (k4_12) (fun hHeld => ?_)
          clear hK K
          refine norm_ (a' := ?_) ?_ ?_
          rotate_left
          ·show Act.put _ (some 77) _ = _
           simp only [Act.put, sAt, sZr, sSc, i64_w, i32_w]
           rfl
          refine pure_ (i := 13) (N := some 78) (v := ?_) (a' := ?_) #[true, true, true, true, true, true, true, true, true, true, true, true, true, true, false, false, false, false, false, false, false, false, false, false, false, false, false, false] rfl rfl (by kernel_rfl) (fun _ _ _ h => h) (Or.inl ⟨by rfl, ?_⟩) ?_ ?_
          rotate_left
          ·intro w'
           go_simp
           with_reducible rfl
          rotate_left
          ·simp only [Act.put, sAt, sZr, sSc, i64_w, i32_w]
           rfl
          refine pure_ (i := 14) (N := some 79) (v := ?_) (a' := ?_) #[true, true, true, true, true, true, true, true, true, true, true, true, true, true, true, false, false, false, false, false, false, false, false, false, false, false, false, false] rfl rfl (by kernel_rfl) (fun _ _ _ h => h) (Or.inl ⟨by rfl, ?_⟩) ?_ ?_
          rotate_left
          ·intro w'
           go_simp
           with_reducible rfl
          rotate_left
          ·simp only [Act.put, sAt, sZr, sSc, i64_w, i32_w]
           rfl
          refine pure_ (i := 15) (N := some 80) (v := ?_) (a' := ?_) #[true, true, true, true, true, true, true, true, true, true, true, true, true, true, true, true, false, false, false, false, false, false, false, false, false, false, false, false] rfl rfl (by kernel_rfl) (fun _ _ _ h => h) (Or.inl ⟨by rfl, ?_⟩) ?_ ?_
          rotate_left
          ·intro w'
           go_simp
           with_reducible rfl
          rotate_left
          ·simp only [Act.put, sAt, sZr, sSc, i64_w, i32_w]
           rfl
          refine pure_ (i := 16) (N := some 81) (v := ?_) (a' := ?_) #[true, true, true, true, true, true, true, true, true, true, true, true, true, true, true, true, true, false, false, false, false, false, false, false, false, false, false, false] rfl rfl (by kernel_rfl) (fun _ _ _ h => h) (Or.inl ⟨by rfl, ?_⟩) ?_ ?_
          rotate_left
          ·intro w'
           go_simp
           with_reducible rfl
          rotate_left
          ·simp only [Act.put, sAt, sZr, sSc, i64_w, i32_w]
           rfl
          refine pure_ (i := 17) (N := some 82) (v := ?_) (a' := ?_) #[true, true, true, true, true, true, true, true, true, true, true, true, true, true, true, true, true, true, false, false, false, false, false, false, false, false, false, false] rfl rfl (by kernel_rfl) (fun _ _ _ h => h) (Or.inl ⟨by rfl, ?_⟩) ?_ ?_
          rotate_left
          ·intro w'
           go_simp
           with_reducible rfl
          rotate_left
          ·simp only [Act.put, sAt, sZr, sSc, i64_w, i32_w]
           rfl
          refine pure_ (i := 19) (N := some 84) (v := ?_) (a' := ?_) #[true, true, true, true, true, true, true, true, true, true, true, true, true, true, true, true, true, true, false, true, false, false, false, false, false, false, false, false] rfl rfl (by kernel_rfl) (fun _ _ _ h => h) (Or.inl ⟨by rfl, ?_⟩) ?_ ?_
          rotate_left
          ·intro w'
           go_simp
           with_reducible rfl
          rotate_left
          ·simp only [Act.put, sAt, sZr, sSc, i64_w, i32_w]
           rfl
          refine pure_ (i := 20) (N := some 85) (v := ?_) (a' := ?_) #[true, true, true, true, true, true, true, true, true, true, true, true, true, true, true, true, true, true, false, true, true, false, false, false, false, false, false, false] rfl rfl (by kernel_rfl) (fun _ _ _ h => h) (Or.inl ⟨by rfl, ?_⟩) ?_ ?_
          rotate_left
          ·intro w'
           go_simp
           with_reducible rfl
          rotate_left
          ·simp only [Act.put, sAt, sZr, sSc, i64_w, i32_w]
           rfl
          refine pure_ (i := 21) (N := some 86) (v := ?_) (a' := ?_) #[true, true, true, true, true, true, true, true, true, true, true, true, true, true, true, true, true, true, false, true, true, true, false, false, false, false, false, false] rfl rfl (by kernel_rfl) (fun _ _ _ h => h) (Or.inl ⟨by rfl, ?_⟩) ?_ ?_
          rotate_left
          ·intro w'
           go_simp
           with_reducible rfl
          rotate_left
          ·simp only [Act.put, sAt, sZr, sSc, i64_w, i32_w]
           rfl
          refine pure_ (i := 22) (N := some 87) (v := ?_) (a' := ?_) #[true, true, true, true, true, true, true, true, true, true, true, true, true, true, true, true, true, true, false, true, true, true, true, false, false, false, false, false] rfl rfl (by kernel_rfl) (fun _ _ _ h => h) (Or.inl ⟨by rfl, ?_⟩) ?_ ?_
          rotate_left
          ·intro w'
           go_simp
           with_reducible rfl
          rotate_left
          ·simp only [Act.put, sAt, sZr, sSc, i64_w, i32_w]
           rfl
          refine pure_ (i := 23) (N := some 88) (v := ?_) (a' := ?_) #[true, true, true, true, true, true, true, true, true, true, true, true, true, true, true, true, true, true, false, true, true, true, true, true, false, false, false, false] rfl rfl (by kernel_rfl) (fun _ _ _ h => h) (Or.inl ⟨by rfl, ?_⟩) ?_ ?_
          rotate_left
          ·intro w'
           go_simp
           with_reducible rfl
          rotate_left
          ·simp only [Act.put, sAt, sZr, sSc, i64_w, i32_w]
           rfl
          refine take_ (i := 24) (N := some 89) (v := ?_) (a' := ?_) #[true, true, true, true, true, true, true, true, true, true, true, true, true, true, true, true, true, true, false, true, true, true, true, true, true, false, false, false] rfl rfl (by kernel_rfl) (fun _ _ _ h => h) (Or.inl ⟨by rfl, ?_⟩) hHeld ?_ ?_
          rotate_left
          ·intro w' s0
           go_simp
           with_reducible rfl
          rotate_left
          ·simp only [Act.put, sAt, sZr, sSc, i64_w, i32_w]
           rfl
          refine one_ (i := 18) (N := some 83) #[true, true, true, true, true, true, true, true, true, true, true, true, true, true, true, true, true, true, true, true, true, true, true, true, true, false, false, false] rfl rfl (by kernel_rfl) (by decide) (fun K hK => ?_)
          refine goesVd_ Tryd.func70 (by kernel_rfl) rfl #[.int .i64 (p : Int), .pointer (some ⟨gs, 0, none⟩), .pointer (some ⟨gn, 0, none⟩), .pointer (some ⟨gr, 0, none⟩)] (by rfl) rfl rfl rfl (by simp [go_sem]) ?_
          refine (HSC.out p HP.out w12 D12.out.e).mono ?_
          rintro e w13 ⟨rfl, hB⟩
          refine ⟨_, rfl, ?_⟩
          rw [HV.out.2.2.1]
          have D13 := zaa.mk (D12.out.below hB)
          have B13 := zaa.mk (B12.out.below hB)
          have k4_13 := a_cell D13.out.a HY4.out
          clear hB
          refine hK.out _ _ (k4_13) (fun hHeld => ?_)
          clear hK K
          refine norm_ (a' := ?_) ?_ ?_
          rotate_left
          ·show Act.put _ (some 83) _ = _
           simp only [Act.put, sAt, sZr, sSc, i64_w, i32_w]
           rfl
          refine one_ (i := 25) (N := some 90) #[true, true, true, true, true, true, true, true, true, true, true, true, true, true, true, true, true, true, true, true, true, true, true, true, true, true, false, false] rfl rfl (by kernel_rfl) (by decide) (fun K hK => ?_)
          refine goesVd_ Tryd.func70 (by kernel_rfl) rfl #[.int .i64 (y : Int), .pointer (some ⟨gs, 0, none⟩), .pointer (some ⟨gn, 0, none⟩), .pointer (some ⟨gr, 0, none⟩)] (by rfl) rfl rfl rfl (by simp [go_sem]) ?_
          refine (HSC.out y HY.out w13 D13.out.e).mono ?_
          rintro e w14 ⟨rfl, hB⟩
          refine ⟨_, rfl, ?_⟩
          rw [HV.out.2.2.2]
          have D14 := zaa.mk (D13.out.below hB)
          have B14 := zaa.mk (B13.out.below hB)
          have k4_14 := a_cell D14.out.a HY4.out
          clear hB
          refine hK.out _ _ (k4_14) (fun hHeld => ?_)
          clear hK K
          refine norm_ (a' := ?_) ?_ ?_
          rotate_left
          ·show Act.put _ (some 90) _ = _
           simp only [Act.put, sAt, sZr, sSc, i64_w, i32_w]
           rfl
          refine pure_ (i := 26) (N := some 91) (v := ?_) (a' := ?_) #[true, true, true, true, true, true, true, true, true, true, true, true, true, true, true, true, true, true, true, true, true, true, true, true, true, true, true, false] rfl rfl (by kernel_rfl) (fun _ _ _ h => h) (Or.inl ⟨by rfl, ?_⟩) ?_ ?_
          rotate_left
          ·intro w'
           go_simp
           with_reducible rfl
          rotate_left
          ·simp only [Act.put, sAt, sZr, sSc, i64_w, i32_w]
           rfl
          refine pure_ (i := 27) (N := some 92) (v := ?_) (a' := ?_) #[true, true, true, true, true, true, true, true, true, true, true, true, true, true, true, true, true, true, true, true, true, true, true, true, true, true, true, true] rfl rfl (by kernel_rfl) (fun _ _ _ h => h) (Or.inl ⟨by rfl, ?_⟩) ?_ ?_
          rotate_left
          ·intro w'
           go_simp
           with_reducible rfl
          rotate_left
          ·simp only [Act.put, sAt, sZr, sSc, i64_w, i32_w]
           rfl
          refine done_ (by kernel_rfl) ?_
          have DW := zaa.mk (D14.out)
          have BW := zaa.mk (B14.out)
          clear hHeld
          have kf := BW.out.free p
          have kg := BW.out.cell p (by rw [za2]; exact HP.out)
          rw [zbr HP.out] at kg
          go_wp2
          go_roundg q
          case measure => omega
          case rel =>
           refine ⟨(mi : Int), ((i + 1 : Nat) : Int), i + 1, rfl, by first | rfl | simp only [e1] | (rw [e1]), ⟨rfl, by have := HL.out; omega, by rw [HM.out.1]⟩, ⟨DW.out.set NX.out p _⟩, ⟨?_⟩⟩
           try rw [e2]
           refine zb7 BW.out (fun y hy => ?_)
           rw [HM.out.2 y]
           by_cases e : y = p
           ·rw [if_pos e, if_pos e]
           ·rw [if_neg e, if_neg e]
         ·rw [if_neg (fun e => hs (hsame.2 e.symm).2)] at hmm
          have e4 := e3 (by omega)
          have tr : ((rp : Int) != (ry : Int)) = false := by simp; omega
          have tr2 : decide ((rp : Int) = (ry : Int)) = true := decide_eq_true (by omega)
          have tr3 : decide (rp = ry) = true := decide_eq_true hr
          have ts : ((sp : Int) != (sy : Int)) = true := by simp; omega
          have ts2 : decide ((sp : Int) = (sy : Int)) = false := decide_eq_false (by omega)
          have ts3 : decide (sp = sy) = false := decide_eq_false hs
          clear e3 hm1 hm2 hm3 hq1 hq2 hle hmi hin hp hpx hi0 him hy hyx hmm hsame hmi2 hrp hry hsp hsy hr hs
          go_wp2
          refine zcr (n := 28) (S := fun w' => w'.cell? ⟨g2, im, none⟩ = some (.int .i64 (y : Int))) (ds := []) #[false, false, false, false, false, false, false, false, false, false, false, false, false, false, false, false, false, false, false, false, false, false, false, false, false, false, false, false] (by kernel_rfl) rfl rfl (k4) (fun hHeld => ?_)
          refine pure_ (i := 0) (N := some 65) (v := ?_) (a' := ?_) #[true, false, false, false, false, false, false, false, false, false, false, false, false, false, false, false, false, false, false, false, false, false, false, false, false, false, false, false] rfl rfl (by kernel_rfl) (fun _ _ _ h => h) (Or.inl ⟨by rfl, ?_⟩) ?_ ?_
          rotate_left
          ·intro w'
           go_simp
           with_reducible rfl
          rotate_left
          ·simp only [Act.put, sAt, sZr, sSc, i64_w, i32_w]
           rfl
          refine pure_ (i := 1) (N := some 66) (v := ?_) (a' := ?_) #[true, true, false, false, false, false, false, false, false, false, false, false, false, false, false, false, false, false, false, false, false, false, false, false, false, false, false, false] rfl rfl (by kernel_rfl) (fun _ _ _ h => h) (Or.inl ⟨by rfl, ?_⟩) ?_ ?_
          rotate_left
          ·intro w'
           go_simp
           with_reducible rfl
          rotate_left
          ·simp only [Act.put, sAt, sZr, sSc, i64_w, i32_w]
           rfl
          refine pure_ (i := 2) (N := some 67) (v := ?_) (a' := ?_) #[true, true, true, false, false, false, false, false, false, false, false, false, false, false, false, false, false, false, false, false, false, false, false, false, false, false, false, false] rfl rfl (by kernel_rfl) (fun _ _ _ h => h) (Or.inl ⟨by rfl, ?_⟩) ?_ ?_
          rotate_left
          ·intro w'
           go_simp
           with_reducible rfl
          rotate_left
          ·simp only [Act.put, sAt, sZr, sSc, i64_w, i32_w]
           rfl
          refine pure_ (i := 3) (N := some 68) (v := ?_) (a' := ?_) #[true, true, true, true, false, false, false, false, false, false, false, false, false, false, false, false, false, false, false, false, false, false, false, false, false, false, false, false] rfl rfl (by kernel_rfl) (fun _ _ _ h => h) (Or.inl ⟨by rfl, ?_⟩) ?_ ?_
          rotate_left
          ·intro w'
           go_simp
           with_reducible rfl
          rotate_left
          ·simp only [Act.put, sAt, sZr, sSc, i64_w, i32_w]
           rfl
          refine pure_ (i := 4) (N := some 69) (v := ?_) (a' := ?_) #[true, true, true, true, true, false, false, false, false, false, false, false, false, false, false, false, false, false, false, false, false, false, false, false, false, false, false, false] rfl rfl (by kernel_rfl) (fun _ _ _ h => h) (Or.inl ⟨by rfl, ?_⟩) ?_ ?_
          rotate_left
          ·intro w'
           go_simp
           with_reducible rfl
          rotate_left
          ·simp only [Act.put, sAt, sZr, sSc, i64_w, i32_w]
           rfl
          refine pure_ (i := 6) (N := some 71) (v := ?_) (a' := ?_) #[true, true, true, true, true, false, true, false, false, false, false, false, false, false, false, false, false, false, false, false, false, false, false, false, false, false, false, false] rfl rfl (by kernel_rfl) (fun _ _ _ h => h) (Or.inl ⟨by rfl, ?_⟩) ?_ ?_
          rotate_left
          ·intro w'
           go_simp
           with_reducible rfl
          rotate_left
          ·simp only [Act.put, sAt, sZr, sSc, i64_w, i32_w]
           rfl
          refine pure_ (i := 7) (N := some 72) (v := ?_) (a' := ?_) #[true, true, true, true, true, false, true, true, false, false, false, false, false, false, false, false, false, false, false, false, false, false, false, false, false, false, false, false] rfl rfl (by kernel_rfl) (fun _ _ _ h => h) (Or.inl ⟨by rfl, ?_⟩) ?_ ?_
          rotate_left
          ·intro w'
           go_simp
           with_reducible rfl
          rotate_left
          ·simp only [Act.put, sAt, sZr, sSc, i64_w, i32_w]
           rfl
          refine pure_ (i := 8) (N := some 73) (v := ?_) (a' := ?_) #[true, true, true, true, true, false, true, true, true, false, false, false, false, false, false, false, false, false, false, false, false, false, false, false, false, false, false, false] rfl rfl (by kernel_rfl) (fun _ _ _ h => h) (Or.inl ⟨by rfl, ?_⟩) ?_ ?_
          rotate_left
          ·intro w'
           go_simp
           with_reducible rfl
          rotate_left
          ·simp only [Act.put, sAt, sZr, sSc, i64_w, i32_w]
           rfl
          refine pure_ (i := 9) (N := some 74) (v := ?_) (a' := ?_) #[true, true, true, true, true, false, true, true, true, true, false, false, false, false, false, false, false, false, false, false, false, false, false, false, false, false, false, false] rfl rfl (by kernel_rfl) (fun _ _ _ h => h) (Or.inl ⟨by rfl, ?_⟩) ?_ ?_
          rotate_left
          ·intro w'
           go_simp
           with_reducible rfl
          rotate_left
          ·simp only [Act.put, sAt, sZr, sSc, i64_w, i32_w]
           rfl
          refine pure_ (i := 10) (N := some 75) (v := ?_) (a' := ?_) #[true, true, true, true, true, false, true, true, true, true, true, false, false, false, false, false, false, false, false, false, false, false, false, false, false, false, false, false] rfl rfl (by kernel_rfl) (fun _ _ _ h => h) (Or.inl ⟨by rfl, ?_⟩) ?_ ?_
          rotate_left
          ·intro w'
           go_simp
           with_reducible rfl
          rotate_left
          ·simp only [Act.put, sAt, sZr, sSc, i64_w, i32_w]
           rfl
          refine take_ (i := 11) (N := some 76) (v := ?_) (a' := ?_) #[true, true, true, true, true, false, true, true, true, true, true, true, false, false, false, false, false, false, false, false, false, false, false, false, false, false, false, false] rfl rfl (by kernel_rfl) (fun _ _ _ h => h) (Or.inl ⟨by rfl, ?_⟩) hHeld ?_ ?_
          rotate_left
          ·intro w' s0
           go_simp
           with_reducible rfl
          rotate_left
          ·simp only [Act.put, sAt, sZr, sSc, i64_w, i32_w]
           rfl
          refine one_ (i := 5) (N := some 70) #[true, true, true, true, true, true, true, true, true, true, true, true, false, false, false, false, false, false, false, false, false, false, false, false, false, false, false, false] rfl rfl (by kernel_rfl) (by decide) (fun K hK => ?_)
          refine goesVd_ Tryd.func71 (by kernel_rfl) rfl #[.int .i64 (p : Int), .pointer (some ⟨gr, 0, none⟩)] (by rfl) rfl rfl rfl (by simp [go_sem]) ?_
          refine (first3_ok gr gq x.size p rk wr.drew (D.out.below (zbl (Below.refl _ _))).e.e HP.out).mono ?_
          rintro e w11 ⟨rfl, hB⟩
          refine ⟨_, rfl, ?_⟩
          rw [HV.out.1]
          have D11 := zaa.mk ((D.out.below (zbl (Below.refl _ _))).below hB)
          have B11 := zaa.mk ((B.out.below (zbl (Below.refl _ _))).below hB)
          have k4_11 := a_cell D11.out.a HY4.out
          clear hB
          refine hK.out _ _ (k4_11) (fun hHeld => ?_)
          clear hK K
          refine norm_ (a' := ?_) ?_ ?_
          rotate_left
          ·show Act.put _ (some 70) _ = _
           simp only [Act.put, sAt, sZr, sSc, i64_w, i32_w]
           rfl
          refine one_ (i := 12) (N := some 77) #[true, true, true, true, true, true, true, true, true, true, true, true, true, false, false, false, false, false, false, false, false, false, false, false, false, false, false, false] rfl rfl (by kernel_rfl) (by decide) (fun K hK => ?_)
          refine goesVd_ Tryd.func71 (by kernel_rfl) rfl #[.int .i64 (y : Int), .pointer (some ⟨gr, 0, none⟩)] (by rfl) rfl rfl rfl (by simp [go_sem]) ?_
          refine (first3_ok gr gq x.size y rk w11 D11.out.e.e HY.out).mono ?_
          rintro e w12 ⟨rfl, hB⟩
          refine ⟨_, rfl, ?_⟩
          rw [HV.out.2.1]
          have D12 := zaa.mk (D11.out.below hB)
          have B12 := zaa.mk (B11.out.below hB)
          have k4_12 := a_cell D12.out.a HY4.out
          clear hB
          refine hK.out _ _ (k4_12) (fun hHeld => ?_)
          clear hK K
          refine norm_ (a' := ?_) ?_ ?_
          rotate_left
          ·show Act.put _ (some 77) _ = _
           simp only [Act.put, sAt, sZr, sSc, i64_w, i32_w]
           rfl
          refine pure_ (i := 13) (N := some 78) (v := ?_) (a' := ?_) #[true, true, true, true, true, true, true, true, true, true, true, true, true, true, false, false, false, false, false, false, false, false, false, false, false, false, false, false] rfl rfl (by kernel_rfl) (fun _ _ _ h => h) (Or.inl ⟨by rfl, ?_⟩) ?_ ?_
          rotate_left
          ·intro w'
           go_simp
           with_reducible rfl
          rotate_left
          ·simp only [Act.put, sAt, sZr, sSc, i64_w, i32_w]
           rfl
          refine pure_ (i := 14) (N := some 79) (v := ?_) (a' := ?_) #[true, true, true, true, true, true, true, true, true, true, true, true, true, true, true, false, false, false, false, false, false, false, false, false, false, false, false, false] rfl rfl (by kernel_rfl) (fun _ _ _ h => h) (Or.inl ⟨by rfl, ?_⟩) ?_ ?_
          rotate_left
          ·intro w'
           go_simp
           with_reducible rfl
          rotate_left
          ·simp only [Act.put, sAt, sZr, sSc, i64_w, i32_w]
           rfl
          refine pure_ (i := 15) (N := some 80) (v := ?_) (a' := ?_) #[true, true, true, true, true, true, true, true, true, true, true, true, true, true, true, true, false, false, false, false, false, false, false, false, false, false, false, false] rfl rfl (by kernel_rfl) (fun _ _ _ h => h) (Or.inl ⟨by rfl, ?_⟩) ?_ ?_
          rotate_left
          ·intro w'
           go_simp
           with_reducible rfl
          rotate_left
          ·simp only [Act.put, sAt, sZr, sSc, i64_w, i32_w]
           rfl
          refine pure_ (i := 16) (N := some 81) (v := ?_) (a' := ?_) #[true, true, true, true, true, true, true, true, true, true, true, true, true, true, true, true, true, false, false, false, false, false, false, false, false, false, false, false] rfl rfl (by kernel_rfl) (fun _ _ _ h => h) (Or.inl ⟨by rfl, ?_⟩) ?_ ?_
          rotate_left
          ·intro w'
           go_simp
           with_reducible rfl
          rotate_left
          ·simp only [Act.put, sAt, sZr, sSc, i64_w, i32_w]
           rfl
          refine pure_ (i := 17) (N := some 82) (v := ?_) (a' := ?_) #[true, true, true, true, true, true, true, true, true, true, true, true, true, true, true, true, true, true, false, false, false, false, false, false, false, false, false, false] rfl rfl (by kernel_rfl) (fun _ _ _ h => h) (Or.inl ⟨by rfl, ?_⟩) ?_ ?_
          rotate_left
          ·intro w'
           go_simp
           with_reducible rfl
          rotate_left
          ·simp only [Act.put, sAt, sZr, sSc, i64_w, i32_w]
           rfl
          refine pure_ (i := 19) (N := some 84) (v := ?_) (a' := ?_) #[true, true, true, true, true, true, true, true, true, true, true, true, true, true, true, true, true, true, false, true, false, false, false, false, false, false, false, false] rfl rfl (by kernel_rfl) (fun _ _ _ h => h) (Or.inl ⟨by rfl, ?_⟩) ?_ ?_
          rotate_left
          ·intro w'
           go_simp
           with_reducible rfl
          rotate_left
          ·simp only [Act.put, sAt, sZr, sSc, i64_w, i32_w]
           rfl
          refine pure_ (i := 20) (N := some 85) (v := ?_) (a' := ?_) #[true, true, true, true, true, true, true, true, true, true, true, true, true, true, true, true, true, true, false, true, true, false, false, false, false, false, false, false] rfl rfl (by kernel_rfl) (fun _ _ _ h => h) (Or.inl ⟨by rfl, ?_⟩) ?_ ?_
          rotate_left
          ·intro w'
           go_simp
           with_reducible rfl
          rotate_left
          ·simp only [Act.put, sAt, sZr, sSc, i64_w, i32_w]
           rfl
          refine pure_ (i := 21) (N := some 86) (v := ?_) (a' := ?_) #[true, true, true, true, true, true, true, true, true, true, true, true, true, true, true, true, true, true, false, true, true, true, false, false, false, false, false, false] rfl rfl (by kernel_rfl) (fun _ _ _ h => h) (Or.inl ⟨by rfl, ?_⟩) ?_ ?_
          rotate_left
          ·intro w'
           go_simp
           with_reducible rfl
          rotate_left
          ·simp only [Act.put, sAt, sZr, sSc, i64_w, i32_w]
           rfl
          refine pure_ (i := 22) (N := some 87) (v := ?_) (a' := ?_) #[true, true, true, true, true, true, true, true, true, true, true, true, true, true, true, true, true, true, false, true, true, true, true, false, false, false, false, false] rfl rfl (by kernel_rfl) (fun _ _ _ h => h) (Or.inl ⟨by rfl, ?_⟩) ?_ ?_
          rotate_left
          ·intro w'
           go_simp
           with_reducible rfl
          rotate_left
          ·simp only [Act.put, sAt, sZr, sSc, i64_w, i32_w]
           rfl
          refine pure_ (i := 23) (N := some 88) (v := ?_) (a' := ?_) #[true, true, true, true, true, true, true, true, true, true, true, true, true, true, true, true, true, true, false, true, true, true, true, true, false, false, false, false] rfl rfl (by kernel_rfl) (fun _ _ _ h => h) (Or.inl ⟨by rfl, ?_⟩) ?_ ?_
          rotate_left
          ·intro w'
           go_simp
           with_reducible rfl
          rotate_left
          ·simp only [Act.put, sAt, sZr, sSc, i64_w, i32_w]
           rfl
          refine take_ (i := 24) (N := some 89) (v := ?_) (a' := ?_) #[true, true, true, true, true, true, true, true, true, true, true, true, true, true, true, true, true, true, false, true, true, true, true, true, true, false, false, false] rfl rfl (by kernel_rfl) (fun _ _ _ h => h) (Or.inl ⟨by rfl, ?_⟩) hHeld ?_ ?_
          rotate_left
          ·intro w' s0
           go_simp
           with_reducible rfl
          rotate_left
          ·simp only [Act.put, sAt, sZr, sSc, i64_w, i32_w]
           rfl
          refine one_ (i := 18) (N := some 83) #[true, true, true, true, true, true, true, true, true, true, true, true, true, true, true, true, true, true, true, true, true, true, true, true, true, false, false, false] rfl rfl (by kernel_rfl) (by decide) (fun K hK => ?_)
          refine goesVd_ Tryd.func70 (by kernel_rfl) rfl #[.int .i64 (p : Int), .pointer (some ⟨gs, 0, none⟩), .pointer (some ⟨gn, 0, none⟩), .pointer (some ⟨gr, 0, none⟩)] (by rfl) rfl rfl rfl (by simp [go_sem]) ?_
          refine (HSC.out p HP.out w12 D12.out.e).mono ?_
          rintro e w13 ⟨rfl, hB⟩
          refine ⟨_, rfl, ?_⟩
          rw [HV.out.2.2.1]
          have D13 := zaa.mk (D12.out.below hB)
          have B13 := zaa.mk (B12.out.below hB)
          have k4_13 := a_cell D13.out.a HY4.out
          clear hB
          refine hK.out _ _ (k4_13) (fun hHeld => ?_)
          clear hK K
          refine norm_ (a' := ?_) ?_ ?_
          rotate_left
          ·show Act.put _ (some 83) _ = _
           simp only [Act.put, sAt, sZr, sSc, i64_w, i32_w]
           rfl
          refine one_ (i := 25) (N := some 90) #[true, true, true, true, true, true, true, true, true, true, true, true, true, true, true, true, true, true, true, true, true, true, true, true, true, true, false, false] rfl rfl (by kernel_rfl) (by decide) (fun K hK => ?_)
          refine goesVd_ Tryd.func70 (by kernel_rfl) rfl #[.int .i64 (y : Int), .pointer (some ⟨gs, 0, none⟩), .pointer (some ⟨gn, 0, none⟩), .pointer (some ⟨gr, 0, none⟩)] (by rfl) rfl rfl rfl (by simp [go_sem]) ?_
          refine (HSC.out y HY.out w13 D13.out.e).mono ?_
          rintro e w14 ⟨rfl, hB⟩
          refine ⟨_, rfl, ?_⟩
          rw [HV.out.2.2.2]
          have D14 := zaa.mk (D13.out.below hB)
          have B14 := zaa.mk (B13.out.below hB)
          have k4_14 := a_cell D14.out.a HY4.out
          clear hB
          refine hK.out _ _ (k4_14) (fun hHeld => ?_)
          clear hK K
          refine norm_ (a' := ?_) ?_ ?_
          rotate_left
          ·show Act.put _ (some 90) _ = _
           simp only [Act.put, sAt, sZr, sSc, i64_w, i32_w]
           rfl
          refine pure_ (i := 26) (N := some 91) (v := ?_) (a' := ?_) #[true, true, true, true, true, true, true, true, true, true, true, true, true, true, true, true, true, true, true, true, true, true, true, true, true, true, true, false] rfl rfl (by kernel_rfl) (fun _ _ _ h => h) (Or.inl ⟨by rfl, ?_⟩) ?_ ?_
          rotate_left
          ·intro w'
           go_simp
           with_reducible rfl
          rotate_left
          ·simp only [Act.put, sAt, sZr, sSc, i64_w, i32_w]
           rfl
          refine pure_ (i := 27) (N := some 92) (v := ?_) (a' := ?_) #[true, true, true, true, true, true, true, true, true, true, true, true, true, true, true, true, true, true, true, true, true, true, true, true, true, true, true, true] rfl rfl (by kernel_rfl) (fun _ _ _ h => h) (Or.inl ⟨by rfl, ?_⟩) ?_ ?_
          rotate_left
          ·intro w'
           go_simp
           with_reducible rfl
          rotate_left
          ·simp only [Act.put, sAt, sZr, sSc, i64_w, i32_w]
           rfl
          refine done_ (by kernel_rfl) ?_
          have DW := zaa.mk (D14.out)
          have BW := zaa.mk (B14.out)
          clear hHeld
          have kf := BW.out.free p
          have kg := BW.out.cell p (by rw [za2]; exact HP.out)
          rw [zbr HP.out] at kg
          go_wp2
          go_roundg q
          case measure => omega
          case rel =>
           refine ⟨(m2 : Int), ((i + 1 : Nat) : Int), i + 1, by first | rfl | simp only [e4] | (rw [e4]), by first | rfl | simp only [e1] | (rw [e1]), ⟨rfl, by have := HL.out; omega, by rw [HM.out.1]⟩, ⟨DW.out.set NX.out p _⟩, ⟨?_⟩⟩
           try rw [e2]
           refine zb7 BW.out (fun y hy => ?_)
           rw [HM.out.2 y]
           by_cases e : y = p
           ·rw [if_pos e, if_pos e]
           ·rw [if_neg e, if_neg e]
        ·rw [if_neg (fun e => hr (hsame.2 e.symm).1)] at hmm
         have e4 := e3 (by omega)
         have tr : ((rp : Int) != (ry : Int)) = true := by simp; omega
         have tr2 : decide ((rp : Int) = (ry : Int)) = false := decide_eq_false (by omega)
         have tr3 : decide (rp = ry) = false := decide_eq_false hr
         clear e3 hm1 hm2 hm3 hq1 hq2 hle hmi hin hp hpx hi0 him hy hyx hmm hsame hmi2 hrp hry hsp hsy hr
         go_wp2
         refine zcr (n := 28) (S := fun w' => w'.cell? ⟨g2, im, none⟩ = some (.int .i64 (y : Int))) (ds := []) #[false, false, false, false, false, false, false, false, false, false, false, false, false, false, false, false, false, false, false, false, false, false, false, false, false, false, false, false] (by kernel_rfl) rfl rfl (k4) (fun hHeld => ?_)
         refine pure_ (i := 0) (N := some 65) (v := ?_) (a' := ?_) #[true, false, false, false, false, false, false, false, false, false, false, false, false, false, false, false, false, false, false, false, false, false, false, false, false, false, false, false] rfl rfl (by kernel_rfl) (fun _ _ _ h => h) (Or.inl ⟨by rfl, ?_⟩) ?_ ?_
         rotate_left
         ·intro w'
          go_simp
          with_reducible rfl
         rotate_left
         ·simp only [Act.put, sAt, sZr, sSc, i64_w, i32_w]
          rfl
         refine pure_ (i := 1) (N := some 66) (v := ?_) (a' := ?_) #[true, true, false, false, false, false, false, false, false, false, false, false, false, false, false, false, false, false, false, false, false, false, false, false, false, false, false, false] rfl rfl (by kernel_rfl) (fun _ _ _ h => h) (Or.inl ⟨by rfl, ?_⟩) ?_ ?_
         rotate_left
         ·intro w'
          go_simp
          with_reducible rfl
         rotate_left
         ·simp only [Act.put, sAt, sZr, sSc, i64_w, i32_w]
          rfl
         refine pure_ (i := 2) (N := some 67) (v := ?_) (a' := ?_) #[true, true, true, false, false, false, false, false, false, false, false, false, false, false, false, false, false, false, false, false, false, false, false, false, false, false, false, false] rfl rfl (by kernel_rfl) (fun _ _ _ h => h) (Or.inl ⟨by rfl, ?_⟩) ?_ ?_
         rotate_left
         ·intro w'
          go_simp
          with_reducible rfl
         rotate_left
         ·simp only [Act.put, sAt, sZr, sSc, i64_w, i32_w]
          rfl
         refine pure_ (i := 3) (N := some 68) (v := ?_) (a' := ?_) #[true, true, true, true, false, false, false, false, false, false, false, false, false, false, false, false, false, false, false, false, false, false, false, false, false, false, false, false] rfl rfl (by kernel_rfl) (fun _ _ _ h => h) (Or.inl ⟨by rfl, ?_⟩) ?_ ?_
         rotate_left
         ·intro w'
          go_simp
          with_reducible rfl
         rotate_left
         ·simp only [Act.put, sAt, sZr, sSc, i64_w, i32_w]
          rfl
         refine pure_ (i := 4) (N := some 69) (v := ?_) (a' := ?_) #[true, true, true, true, true, false, false, false, false, false, false, false, false, false, false, false, false, false, false, false, false, false, false, false, false, false, false, false] rfl rfl (by kernel_rfl) (fun _ _ _ h => h) (Or.inl ⟨by rfl, ?_⟩) ?_ ?_
         rotate_left
         ·intro w'
          go_simp
          with_reducible rfl
         rotate_left
         ·simp only [Act.put, sAt, sZr, sSc, i64_w, i32_w]
          rfl
         refine pure_ (i := 6) (N := some 71) (v := ?_) (a' := ?_) #[true, true, true, true, true, false, true, false, false, false, false, false, false, false, false, false, false, false, false, false, false, false, false, false, false, false, false, false] rfl rfl (by kernel_rfl) (fun _ _ _ h => h) (Or.inl ⟨by rfl, ?_⟩) ?_ ?_
         rotate_left
         ·intro w'
          go_simp
          with_reducible rfl
         rotate_left
         ·simp only [Act.put, sAt, sZr, sSc, i64_w, i32_w]
          rfl
         refine pure_ (i := 7) (N := some 72) (v := ?_) (a' := ?_) #[true, true, true, true, true, false, true, true, false, false, false, false, false, false, false, false, false, false, false, false, false, false, false, false, false, false, false, false] rfl rfl (by kernel_rfl) (fun _ _ _ h => h) (Or.inl ⟨by rfl, ?_⟩) ?_ ?_
         rotate_left
         ·intro w'
          go_simp
          with_reducible rfl
         rotate_left
         ·simp only [Act.put, sAt, sZr, sSc, i64_w, i32_w]
          rfl
         refine pure_ (i := 8) (N := some 73) (v := ?_) (a' := ?_) #[true, true, true, true, true, false, true, true, true, false, false, false, false, false, false, false, false, false, false, false, false, false, false, false, false, false, false, false] rfl rfl (by kernel_rfl) (fun _ _ _ h => h) (Or.inl ⟨by rfl, ?_⟩) ?_ ?_
         rotate_left
         ·intro w'
          go_simp
          with_reducible rfl
         rotate_left
         ·simp only [Act.put, sAt, sZr, sSc, i64_w, i32_w]
          rfl
         refine pure_ (i := 9) (N := some 74) (v := ?_) (a' := ?_) #[true, true, true, true, true, false, true, true, true, true, false, false, false, false, false, false, false, false, false, false, false, false, false, false, false, false, false, false] rfl rfl (by kernel_rfl) (fun _ _ _ h => h) (Or.inl ⟨by rfl, ?_⟩) ?_ ?_
         rotate_left
         ·intro w'
          go_simp
          with_reducible rfl
         rotate_left
         ·simp only [Act.put, sAt, sZr, sSc, i64_w, i32_w]
          rfl
         refine pure_ (i := 10) (N := some 75) (v := ?_) (a' := ?_) #[true, true, true, true, true, false, true, true, true, true, true, false, false, false, false, false, false, false, false, false, false, false, false, false, false, false, false, false] rfl rfl (by kernel_rfl) (fun _ _ _ h => h) (Or.inl ⟨by rfl, ?_⟩) ?_ ?_
         rotate_left
         ·intro w'
          go_simp
          with_reducible rfl
         rotate_left
         ·simp only [Act.put, sAt, sZr, sSc, i64_w, i32_w]
          rfl
         refine take_ (i := 11) (N := some 76) (v := ?_) (a' := ?_) #[true, true, true, true, true, false, true, true, true, true, true, true, false, false, false, false, false, false, false, false, false, false, false, false, false, false, false, false] rfl rfl (by kernel_rfl) (fun _ _ _ h => h) (Or.inl ⟨by rfl, ?_⟩) hHeld ?_ ?_
         rotate_left
         ·intro w' s0
          go_simp
          with_reducible rfl
         rotate_left
         ·simp only [Act.put, sAt, sZr, sSc, i64_w, i32_w]
          rfl
         refine one_ (i := 5) (N := some 70) #[true, true, true, true, true, true, true, true, true, true, true, true, false, false, false, false, false, false, false, false, false, false, false, false, false, false, false, false] rfl rfl (by kernel_rfl) (by decide) (fun K hK => ?_)
         refine goesVd_ Tryd.func71 (by kernel_rfl) rfl #[.int .i64 (p : Int), .pointer (some ⟨gr, 0, none⟩)] (by rfl) rfl rfl rfl (by simp [go_sem]) ?_
         refine (first3_ok gr gq x.size p rk wr.drew (D.out.below (zbl (Below.refl _ _))).e.e HP.out).mono ?_
         rintro e w11 ⟨rfl, hB⟩
         refine ⟨_, rfl, ?_⟩
         rw [HV.out.1]
         have D11 := zaa.mk ((D.out.below (zbl (Below.refl _ _))).below hB)
         have B11 := zaa.mk ((B.out.below (zbl (Below.refl _ _))).below hB)
         have k4_11 := a_cell D11.out.a HY4.out
         clear hB
         refine hK.out _ _ (k4_11) (fun hHeld => ?_)
         clear hK K
         refine norm_ (a' := ?_) ?_ ?_
         rotate_left
         ·show Act.put _ (some 70) _ = _
          simp only [Act.put, sAt, sZr, sSc, i64_w, i32_w]
          rfl
         refine one_ (i := 12) (N := some 77) #[true, true, true, true, true, true, true, true, true, true, true, true, true, false, false, false, false, false, false, false, false, false, false, false, false, false, false, false] rfl rfl (by kernel_rfl) (by decide) (fun K hK => ?_)
         refine goesVd_ Tryd.func71 (by kernel_rfl) rfl #[.int .i64 (y : Int), .pointer (some ⟨gr, 0, none⟩)] (by rfl) rfl rfl rfl (by simp [go_sem]) ?_
         refine (first3_ok gr gq x.size y rk w11 D11.out.e.e HY.out).mono ?_
         rintro e w12 ⟨rfl, hB⟩
         refine ⟨_, rfl, ?_⟩
         rw [HV.out.2.1]
         have D12 := zaa.mk (D11.out.below hB)
         have B12 := zaa.mk (B11.out.below hB)
         have k4_12 := a_cell D12.out.a HY4.out
         clear hB
         refine hK.out _ _ (k4_12) (fun hHeld => ?_)
         clear hK K
         refine norm_ (a' := ?_) ?_ ?_
         rotate_left
         ·show Act.put _ (some 77) _ = _
          simp only [Act.put, sAt, sZr, sSc, i64_w, i32_w]
          rfl
         refine pure_ (i := 13) (N := some 78) (v := ?_) (a' := ?_) #[true, true, true, true, true, true, true, true, true, true, true, true, true, true, false, false, false, false, false, false, false, false, false, false, false, false, false, false] rfl rfl (by kernel_rfl) (fun _ _ _ h => h) (Or.inl ⟨by rfl, ?_⟩) ?_ ?_
         rotate_left
         ·intro w'
          go_simp
          with_reducible rfl
         rotate_left
         ·simp only [Act.put, sAt, sZr, sSc, i64_w, i32_w]
          rfl
         refine pure_ (i := 14) (N := some 79) (v := ?_) (a' := ?_) #[true, true, true, true, true, true, true, true, true, true, true, true, true, true, true, false, false, false, false, false, false, false, false, false, false, false, false, false] rfl rfl (by kernel_rfl) (fun _ _ _ h => h) (Or.inl ⟨by rfl, ?_⟩) ?_ ?_
         rotate_left
         ·intro w'
          go_simp
          with_reducible rfl
         rotate_left
         ·simp only [Act.put, sAt, sZr, sSc, i64_w, i32_w]
          rfl
         refine pure_ (i := 15) (N := some 80) (v := ?_) (a' := ?_) #[true, true, true, true, true, true, true, true, true, true, true, true, true, true, true, true, false, false, false, false, false, false, false, false, false, false, false, false] rfl rfl (by kernel_rfl) (fun _ _ _ h => h) (Or.inl ⟨by rfl, ?_⟩) ?_ ?_
         rotate_left
         ·intro w'
          go_simp
          with_reducible rfl
         rotate_left
         ·simp only [Act.put, sAt, sZr, sSc, i64_w, i32_w]
          rfl
         refine pure_ (i := 16) (N := some 81) (v := undef) (a' := ?_) #[true, true, true, true, true, true, true, true, true, true, true, true, true, true, true, true, true, false, false, false, false, false, false, false, false, false, false, false] rfl rfl (by kernel_rfl) (fun _ _ _ h => h) (Or.inr ⟨by rfl, rfl⟩) ?_ ?_
         rotate_left
         ·simp only [Act.put, sAt, sZr, sSc, i64_w, i32_w]
          rfl
         refine pure_ (i := 17) (N := some 82) (v := undef) (a' := ?_) #[true, true, true, true, true, true, true, true, true, true, true, true, true, true, true, true, true, true, false, false, false, false, false, false, false, false, false, false] rfl rfl (by kernel_rfl) (fun _ _ _ h => h) (Or.inr ⟨by rfl, rfl⟩) ?_ ?_
         rotate_left
         ·simp only [Act.put, sAt, sZr, sSc, i64_w, i32_w]
          rfl
         refine pure_ (i := 18) (N := some 83) (v := undef) (a' := ?_) #[true, true, true, true, true, true, true, true, true, true, true, true, true, true, true, true, true, true, true, false, false, false, false, false, false, false, false, false] rfl rfl (by kernel_rfl) (fun _ _ _ h => h) (Or.inr ⟨by rfl, rfl⟩) ?_ ?_
         rotate_left
         ·simp only [Act.put, sAt, sZr, sSc, i64_w, i32_w]
          rfl
         refine pure_ (i := 19) (N := some 84) (v := undef) (a' := ?_) #[true, true, true, true, true, true, true, true, true, true, true, true, true, true, true, true, true, true, true, true, false, false, false, false, false, false, false, false] rfl rfl (by kernel_rfl) (fun _ _ _ h => h) (Or.inr ⟨by rfl, rfl⟩) ?_ ?_
         rotate_left
         ·simp only [Act.put, sAt, sZr, sSc, i64_w, i32_w]
          rfl
         refine pure_ (i := 20) (N := some 85) (v := undef) (a' := ?_) #[true, true, true, true, true, true, true, true, true, true, true, true, true, true, true, true, true, true, true, true, true, false, false, false, false, false, false, false] rfl rfl (by kernel_rfl) (fun _ _ _ h => h) (Or.inr ⟨by rfl, rfl⟩) ?_ ?_
         rotate_left
         ·simp only [Act.put, sAt, sZr, sSc, i64_w, i32_w]
          rfl
         refine pure_ (i := 21) (N := some 86) (v := undef) (a' := ?_) #[true, true, true, true, true, true, true, true, true, true, true, true, true, true, true, true, true, true, true, true, true, true, false, false, false, false, false, false] rfl rfl (by kernel_rfl) (fun _ _ _ h => h) (Or.inr ⟨by rfl, rfl⟩) ?_ ?_
         rotate_left
         ·simp only [Act.put, sAt, sZr, sSc, i64_w, i32_w]
          rfl
         refine pure_ (i := 22) (N := some 87) (v := undef) (a' := ?_) #[true, true, true, true, true, true, true, true, true, true, true, true, true, true, true, true, true, true, true, true, true, true, true, false, false, false, false, false] rfl rfl (by kernel_rfl) (fun _ _ _ h => h) (Or.inr ⟨by rfl, rfl⟩) ?_ ?_
         rotate_left
         ·simp only [Act.put, sAt, sZr, sSc, i64_w, i32_w]
          rfl
         refine pure_ (i := 23) (N := some 88) (v := undef) (a' := ?_) #[true, true, true, true, true, true, true, true, true, true, true, true, true, true, true, true, true, true, true, true, true, true, true, true, false, false, false, false] rfl rfl (by kernel_rfl) (fun _ _ _ h => h) (Or.inr ⟨by rfl, rfl⟩) ?_ ?_
         rotate_left
         ·simp only [Act.put, sAt, sZr, sSc, i64_w, i32_w]
          rfl
         refine pure_ (i := 24) (N := some 89) (v := undef) (a' := ?_) #[true, true, true, true, true, true, true, true, true, true, true, true, true, true, true, true, true, true, true, true, true, true, true, true, true, false, false, false] rfl rfl (by kernel_rfl) (fun _ _ _ h => h) (Or.inr ⟨by rfl, rfl⟩) ?_ ?_
         rotate_left
         ·simp only [Act.put, sAt, sZr, sSc, i64_w, i32_w]
          rfl
         refine pure_ (i := 25) (N := some 90) (v := undef) (a' := ?_) #[true, true, true, true, true, true, true, true, true, true, true, true, true, true, true, true, true, true, true, true, true, true, true, true, true, true, false, false] rfl rfl (by kernel_rfl) (fun _ _ _ h => h) (Or.inr ⟨by rfl, rfl⟩) ?_ ?_
         rotate_left
         ·simp only [Act.put, sAt, sZr, sSc, i64_w, i32_w]
          rfl
         refine pure_ (i := 26) (N := some 91) (v := undef) (a' := ?_) #[true, true, true, true, true, true, true, true, true, true, true, true, true, true, true, true, true, true, true, true, true, true, true, true, true, true, true, false] rfl rfl (by kernel_rfl) (fun _ _ _ h => h) (Or.inr ⟨by rfl, rfl⟩) ?_ ?_
         rotate_left
         ·simp only [Act.put, sAt, sZr, sSc, i64_w, i32_w]
          rfl
         refine pure_ (i := 27) (N := some 92) (v := ?_) (a' := ?_) #[true, true, true, true, true, true, true, true, true, true, true, true, true, true, true, true, true, true, true, true, true, true, true, true, true, true, true, true] rfl rfl (by kernel_rfl) (fun _ _ _ h => h) (Or.inl ⟨by rfl, ?_⟩) ?_ ?_
         rotate_left
         ·intro w'
          go_simp
          with_reducible rfl
         rotate_left
         ·simp only [Act.put, sAt, sZr, sSc, i64_w, i32_w]
          rfl
         refine done_ (by kernel_rfl) ?_
         have DW := zaa.mk (D12.out)
         have BW := zaa.mk (B12.out)
         clear hHeld
         have kf := BW.out.free p
         have kg := BW.out.cell p (by rw [za2]; exact HP.out)
         rw [zbr HP.out] at kg
         go_wp2
         go_roundg q
         case measure => omega
         case rel =>
          refine ⟨(m2 : Int), ((i + 1 : Nat) : Int), i + 1, by first | rfl | simp only [e4] | (rw [e4]), by first | rfl | simp only [e1] | (rw [e1]), ⟨rfl, by have := HL.out; omega, by rw [HM.out.1]⟩, ⟨DW.out.set NX.out p _⟩, ⟨?_⟩⟩
          try rw [e2]
          refine zb7 BW.out (fun y hy => ?_)
          rw [HM.out.2 y]
          by_cases e : y = p
          ·rw [if_pos e, if_pos e]
          ·rw [if_neg e, if_neg e]
end Go.Proofs.YtdifgiceallpiaaDoor.Hd
