/- suffix: Ranks, walked by hand: a range over slices.Backward. -/
import Derived.Test.YtfmgoealbaihjaaHBk
import Derived.Test.YtfmgoealbaihjaaHSa11
set_option linter.unusedVariables false
set_option linter.unusedSimpArgs false
set_option linter.unusedSectionVars false
namespace Go.Proofs.Ytfmgoealbaihjaa.Bk
open Go Go.RowKit Go.Shelf Go.Proofs.YtfmgoealbaihjaaW.PrintWords Go.Proofs.YtfmgoealbaihjaaW.PrintLast Go.Proofs.YtfmgoealbaihjaaW.PrintMore Go.Proofs.Ytfmgoealbaihjaa.Hw Go.Proofs.Ytfmgoealbaihjaa.Com Go.Proofs.Ytfmgoealbaihjaa.Cn Go.Proofs.Ytfmgoealbaihjaa.P Go.Proofs.Ytfmgoealbaihjaa.Sais Go.Proofs.Ytfmgoealbaihjaa.Hd
attribute [local go_sem] Oper.semAt_some
attribute [local go_sem] max2_int min2_int max_two min_two max_three min_three max_four min_four
/-- What stands in memory while ranks are told. -/
structure RkS (w : World) (Ba g3 go n : Nat) (A0 : Option Addr) (c0 : Nat) (f : Nat → Int) (W : World) : Prop where
  a : W.heap[Ba]? = some (.cells #[.slice A0 n c0] 22 (0, 0))
  r : W.heap[g3]? = some (.cells #[.slice (some ⟨go, 0, none⟩) n n] 22 (0, 0))
  o : Blk W go .i64 3 (tabn n f)
  lo : w.heap.size ≤ go
  bl : Below w.heap.size w W
theorem ne_cells {W : World} {g r : Nat} {cs : Array Value} {t : TypeId} {z : Nat × Nat} (h : W.heap[g]? = some (.cells cs t z)) {B : Nat} {row : Option Nat} (hr : ∀ r, row = some r → B ≤ r ∧ ∃ o : Obj, W.heap[r]? = some o ∧ o.isCells = false) : some g ≠ row := fun e => by
  obtain ⟨_, o, ho, hc⟩ := hr g e.symm
  rw [h] at ho
  cases ho
  cases hc
theorem RkS.own {β : Type} {w : World} {Ba g3 go n : Nat} {A0 : Option Addr} {c0 B : Nat} {F : β → Nat → Int} (hB : w.heap.size ≤ B) : OwnFrom B (fun s W => RkS w Ba g3 go n A0 c0 (F s) W) := fun s W W' row hs hg hr =>
  ⟨blk_grown hs.a hg (ne_cells (r := 0) hs.a hr), blk_grown hs.r hg (ne_cells (r := 0) hs.r hr), hs.o.grown hg (ne_cells (r := 0) (show W.heap[go]? = some (.cells (ints .i64 (tabn n (F s))) 3 (0, 0)) from hs.o) hr), hs.lo, hs.bl.grown hg hs.bl.size (fun k e => Nat.le_trans hB (hr k e).1)⟩
theorem RkS.seto {w W : World} {Ba g3 go n : Nat} {A0 : Option Addr} {c0 : Nat} {f f' : Nat → Int} (h : RkS w Ba g3 go n A0 c0 f W) (j : Nat) (v : Int) (hf : ∀ y, y < n → (if y = j then v else f y) = f' y) : RkS w Ba g3 go n A0 c0 f' (W.setCell ⟨go, j, none⟩ (.int .i64 v)) :=
  ⟨blk_far h.a (blk_ne h.a (show W.heap[go]? = some (.cells (ints .i64 (tabn n f)) 3 (0, 0)) from h.o) (by decide)) _, blk_far h.r (blk_ne h.r (show W.heap[go]? = some (.cells (ints .i64 (tabn n f)) 3 (0, 0)) from h.o) (by decide)) _, blk_step h.o hf, h.lo, below_set h.bl h.lo⟩
theorem RkS.co {w W : World} {Ba g3 go n : Nat} {A0 : Option Addr} {c0 : Nat} {f : Nat → Int} (h : RkS w Ba g3 go n A0 c0 f W) {j : Nat} (hj : j < n) : W.cell? ⟨go, j, none⟩ = some (.int .i64 (f j)) := by
  have := h.o.cell j (by rw [tabn_length]; exact hj)
  rw [tabn_getD hj] at this
  exact this
set_option maxHeartbeats 8000000 in
set_option maxRecDepth 100000 in
theorem ranks_ok (A0 : Option Addr) (c0 : Nat) (zs : List Int) (w : World) (hC : Kd.C (Kd.int .i64) w A0 zs.length zs) (hx : zs.length ≤ 1073741824) :
    Calls Try.prog 12 #[.slice A0 zs.length c0] w fun e w' => ∃ g : Nat, e = .returned (.slice (some ⟨g, 0, none⟩) zs.length zs.length) ∧ w.heap.size ≤ g ∧ Blk w' g .i64 3 (tabn zs.length (rkF zs.length (upto zs zs.length))) ∧ Below w.heap.size w w' := by
  have HRD := Aside0.mk (show ∀ j, j < zs.length → ∃ ad : Addr, A0 = some ad ∧ (ad.add j).block < w.heap.size ∧ w.cell? (ad.add j) = some (.int .i64 (zs[j]?.getD 0)) from fun j hj => by
    obtain ⟨ad, h1, h2⟩ := Kd.at_int hC (j : Int) (by omega) (by omega)
    rw [Int.toNat_natCast, rd_nat, List.getD_eq_getElem?_getD] at h2
    exact ⟨ad, h1, World.block_lt_of_cell? w _ h2, h2⟩)
  obtain ⟨n, hn⟩ : ∃ n, zs.length = n := ⟨_, rfl⟩
  have HX := Aside0.mk (And.intro hx hn)
  rw [hn]
  clear hx hC hn
  refine (callsIn_wide (n := 3)).1 ?_
  refine callsIn_of_wp_marks Try.func12 rfl trivial ?_
  refine wpIn_wide.2 ?_
  simp only [Try.ntmps12, List.size_toArray, List.length_cons, List.length_nil, Nat.reduceAdd, Nat.reduceSub, Array.replicate_succ, Array.replicate_zero, List.push_toArray, List.append_toArray, List.nil_append, List.cons_append]
  have XA := Aside0.mk (show (w.alloc (.cells #[.slice A0 n c0] 22)).heap[w.heap.size]? = some (.cells #[.slice A0 n c0] 22 (0, 0)) from blk_new w _)
  have CA := Aside0.mk (below_alloc (Below.refl w.heap.size w) (.cells #[.slice A0 n c0] 22))
  obtain ⟨wa, hwa⟩ : ∃ wa, w.alloc (.cells #[.slice A0 n c0] 22) = wa := ⟨_, rfl⟩
  rw [hwa] at XA CA
  obtain ⟨Ba, hBa⟩ : ∃ Ba, w.heap.size = Ba := ⟨_, rfl⟩
  have HBA := Aside0.mk hBa
  have ka : wa.cell? ⟨Ba, 0, none⟩ = some (.slice A0 n c0) := by rw [← hBa]; exact (blk_cell XA.out 0).trans rfl
  go_wp2_with (first
    | (simp only [hwa, hBa])
    | ((with_reducible refine gate_dst (N := 9) rfl ?_); refine make_blk rfl rfl n rfl rfl Try.underlying22 .i64 Hd.info3 (by decide) (by have := HX.out; omega) ?_; intro go w2 G2 K2 B2; have X2 := Aside0.mk (blk_below XA.out B2.out); have C2 := Aside0.mk (below_step CA.out B2.out))
    | ((with_reducible refine gate_dst (N := 3) rfl ?_); refine alloc_var rfl rfl info22 rfl ?_; intro g3 w3 G3 X3 B3; have kc3 := (blk_cell X3.out 0).trans (rfl : _ = some (Value.slice none 0 0)); have kf3 := blk_frozen X3.out 0; have J0 := Aside0.mk (show RkS w Ba g3 go n A0 c0 (fun j => if j < 0 then -1 else 0) (w3.setCell ⟨g3, 0, none⟩ (.slice (some ⟨go, 0, none⟩) n n)) from by
        have ho := K2.out.below B3.out
        rw [tabn_zero] at ho
        have hA := blk_below X2.out B3.out
        rw [hBa] at hA
        have l1 : w.heap.size ≤ g3 := by rw [G3.out]; exact C2.out.size
        have l2 : Ba < g3 := by rw [G3.out, ← hBa]; exact blk_lt X2.out
        have l3 : w.heap.size ≤ go := Nat.le_trans CA.out.size G2.out
        exact ⟨blk_far hA (Nat.ne_of_lt l2) _, blk_set X3.out 0 _, ho.far (blk_ne X3.out (show w3.heap[go]? = some (.cells (ints .i64 (tabn n (fun _ => 0))) 3 (0, 0)) from ho) (by decide)).symm _, l3, below_set (below_step C2.out B3.out) l1⟩)))
  clear kc3 kf3 X2 C2 X3 B3 B2 K2 G2 G3 XA CA
  obtain ⟨w4, hw4⟩ : ∃ w4, w3.setCell ⟨g3, 0, none⟩ (.slice (some ⟨go, 0, none⟩) n n) = w4 := ⟨_, rfl⟩
  rw [hw4] at J0
  rw [hw4]
  clear hw4
  have kr : w4.cell? ⟨g3, 0, none⟩ = some (.slice (some ⟨go, 0, none⟩) n n) := (blk_cell J0.out.r 0).trans rfl
  go_loopg [12] n (fun q v12 w' => ∃ (L : Int) (i : Nat), v12 = .int .i64 L ∧ Aside0 (L = (i : Int) ∧ i + q = n) ∧ Aside0 (RkS w Ba g3 go n A0 c0 (fun j => if j < i then -1 else 0) w'))
  case atStart => exact ⟨0, 0, rfl, ⟨rfl, by omega⟩, J0⟩
  case round =>
    clear J0 kr
    obtain ⟨L, i, rfl, HL, D⟩ := hrel
    have kr : wr.cell? ⟨g3, 0, none⟩ = some (.slice (some ⟨go, 0, none⟩) n n) := (blk_cell D.out.r 0).trans rfl
    cases gk with
    | succ q =>
      obtain rfl : L = (i : Int) := HL.out.1
      have hin : i < n := by have := HL.out; omega
      have t1 : decide ((i : Int) < (n : Int)) = true := decide_eq_true (by omega)
      have t2 : decide (i < n) = true := decide_eq_true hin
      have p1 : ((i : Int) < (n : Int)) = True := eq_true (by omega)
      have p2 : (i < n) = True := eq_true hin
      have e1 : wrap64 ((i : Int) + 1) = ((i + 1 : Nat) : Int) := by have := HX.out; rw [w64 (by omega) (by omega)]; omega
      have kf := D.out.o.free i
      have kg := D.out.co hin
      clear hin
      go_wp2
      go_roundg q
      case measure => omega
      case rel =>
        refine ⟨((i + 1 : Nat) : Int), i + 1, by first | rfl | simp only [e1] | (rw [e1]), ⟨rfl, by have := HL.out; omega⟩, ⟨D.out.seto i _ (fun y hy => ?_)⟩⟩
        by_cases e : y = i
        · rw [if_pos e, if_pos (by omega)]
        · rw [if_neg e]
          by_cases h2 : y < i
          · rw [if_pos h2, if_pos (by omega)]
          · rw [if_neg h2, if_neg (by omega)]
    | zero =>
      have t1 : decide (L < (n : Int)) = false := decide_eq_false (by have := HL.out; omega)
      have DS := Aside0.mk (show RkS w Ba g3 go n A0 c0 (rkF n []) wr from ⟨D.out.a, D.out.r, (congrArg (Blk _ go .i64 3) (tabn_congr (fun y hy => by rw [if_pos (by have := HL.out; omega)]; rfl))).mp D.out.o, D.out.lo, D.out.bl⟩)
      have kb : wr.cell? ⟨Ba, 0, none⟩ = some (.slice A0 n c0) := (blk_cell D.out.a 0).trans rfl
      clear D
      go_wp2_with (first
        | (go_at_call 16; with_reducible refine (backward_ok A0 n c0 wr).mono ?_; rintro e w5 ⟨rfl, hw5⟩; have H5 := Aside0.mk hw5; clear hw5))
      have S5 := Aside0.mk (show RkS w Ba g3 go n A0 c0 (rkF n []) w5 ∧ w5.heap[wr.heap.size]? = some (.cells #[.slice A0 n c0] 22 (0, 0)) ∧ wr.heap.size < w5.heap.size ∧ go < wr.heap.size from by
        have hw5 := H5.out
        subst hw5
        have hb : Below wr.heap.size wr (wr.alloc (.cells #[.slice A0 n c0] 22)) := below_alloc (Below.refl _ _) _
        exact ⟨⟨blk_below DS.out.a hb, blk_below DS.out.r hb, DS.out.o.below hb, DS.out.lo, below_step DS.out.bl hb⟩, blk_new wr _, by simp, DS.out.o.lt⟩)
      obtain ⟨Bb, hBb⟩ : ∃ Bb, wr.heap.size = Bb := ⟨_, rfl⟩
      rw [hBb] at S5
      rw [hBb]
      have HN5 := Aside0.mk (show ∀ j, j < zs.length → ∃ ad : Addr, A0 = some ad ∧ (ad.add j).block < w5.heap.size ∧ w5.cell? (ad.add j) = some (.int .i64 (zs[j]?.getD 0)) from fun j hj => by
        obtain ⟨ad, h1, h2, h3⟩ := HRD.out j hj
        have hs := S5.out.1.bl.size
        exact ⟨ad, h1, by omega, (S5.out.1.bl.cell (p := ad.add j) h2).trans h3⟩)
      have HN6 := Aside0.mk (show ∀ j, j < zs.length → ∃ ad : Addr, A0 = some ad ∧ (ad.add j).block < w.heap.size ∧ w5.cell? (ad.add j) = some (.int .i64 (zs[j]?.getD 0)) from fun j hj => by
        obtain ⟨ad, h1, h2, h3⟩ := HRD.out j hj
        exact ⟨ad, h1, h2, (S5.out.1.bl.cell (p := ad.add j) h2).trans h3⟩)
      have HC5 := Aside0.mk (show w5.heap[Bb]? = some (.cells #[.slice A0 zs.length c0] 22 (0, 0)) from by rw [HX.out.2]; exact S5.out.2.1)
      clear DS kb t1 HL HN5 HRD H5
      refine (wpIn_wide (n := 3)).1 ?_
      refine wpIn_rangeFunc_ownG (F := Fence.wide) rfl (by decide) (gf := 19) (lb := #[.pointer (some ⟨Bb, 0, none⟩)]) rfl trivial (enters_of Try.func19 (by kernel_rfl) rfl)
        (bk_stops Fence.wide (3 - 1) trivial rfl (by decide) Bb w.heap.size c0 A0 zs (by have := HX.out; omega) w5 S5.out.2.2.1 S5.out.1.bl.size HC5.out HN6.out)
        (fun h h' => KpB.trans h h') (fun W l o o' hl ho hc hw => ⟨belowK_b (w := w5) S5.out.1.bl.size W l o o' hl ho hc hw, fun cs t hz => (World.putObj_heap_other (by have := S5.out.2.2.1; omega)).trans hz⟩) (Below.refl _ _) (fun _ => rfl)
        (fun pre W => RkS w Ba g3 go n A0 c0 (rkF n pre) W) (fun _ _ _ => False) (RkS.own (F := fun pre => rkF n pre) S5.out.1.bl.size) (fun _ _ _ _ _ hs _ _ => hs) S5.out.1
        (fun x => { tmps := #[.slice A0 n c0, .pointer (some ⟨Ba, 0, none⟩), .slice none 0 0, .pointer (some ⟨g3, 0, none⟩), u4, .int .i64 (x.1 : Int), .int .i64 x.2, .slice A0 n c0, .int .i64 (n : Int), .slice (some ⟨go, 0, none⟩) n n, .slice (some ⟨go, 0, none⟩) n n, .int .i64 (n : Int), .int .i64 L, .bool false, u14, u15, u16, u17, u18, .slice A0 n c0, .func (.func 19) #[] #[.pointer (some ⟨Bb, 0, none⟩)], .int .i64 (x.1 : Int), .int .i64 x.2, undef, undef, undef, undef, undef, undef, undef, undef, undef, undef, undef, undef, undef], defers := [] }) ?assign ?body ?done ?stop
      case assign =>
        intro l x W K hK
        gi_wp2
        exact hK
      case body =>
        rintro l pre ⟨xi, xv⟩ W D _
        have kr : W.cell? ⟨g3, 0, none⟩ = some (.slice (some ⟨go, 0, none⟩) n n) := (blk_cell D.r 0).trans rfl
        have kb : W.cell? ⟨Ba, 0, none⟩ = some (.slice A0 n c0) := (blk_cell D.a 0).trans rfl
        have hsn := rkF_snoc n pre (xi, xv)
        dsimp only at hsn ⊢
        by_cases h0 : 0 ≤ xv
        · obtain ⟨y, rfl⟩ : ∃ y : Nat, xv = (y : Int) := ⟨xv.toNat, by omega⟩
          by_cases h1 : y < n
          · rw [if_pos ⟨h0, by omega⟩, Int.toNat_natCast] at hsn
            have p1 : ((y : Int) < (n : Int)) = True := eq_true (by omega)
            have p2 : (y < n) = True := eq_true h1
            have t1 : decide ((y : Int) < (n : Int)) = true := decide_eq_true (by omega)
            have t2 : decide (y < n) = true := decide_eq_true h1
            have kf := D.o.free y
            have kg := D.co h1
            have S := Aside0.mk hsn
            have DD := Aside0.mk D
            clear hsn h0 h1 D
            gi_wp2
            exact ⟨(KeepsOthers.setCell _ _ _).from _, ⟨(Below.refl w.heap.size W).setCell (p := ⟨go, y, none⟩) DD.out.lo _, fun cs t hz => blk_far hz (show Bb ≠ go from Nat.ne_of_gt S5.out.2.2.2) _⟩, DD.out.seto y _ (fun z hz => by rw [S.out])⟩
          · rw [if_neg (by omega)] at hsn
            have t1 : decide ((y : Int) < (n : Int)) = false := decide_eq_false (by omega)
            have t2 : decide (y < n) = false := decide_eq_false h1
            have S := Aside0.mk hsn
            have DD := Aside0.mk D
            clear hsn h0 h1 D
            gi_wp2
            exact ⟨KeepsFrom.refl _ _, KpB.refl _ _ _, by show RkS w Ba g3 go n A0 c0 (rkF n (pre ++ [_])) W; rw [S.out]; exact DD.out⟩
        · rw [if_neg (by omega)] at hsn
          have t1 : decide (0 ≤ xv) = false := decide_eq_false h0
          have S := Aside0.mk hsn
          have DD := Aside0.mk D
          clear hsn h0 D
          gi_wp2
          exact ⟨KeepsFrom.refl _ _, KpB.refl _ _ _, by show RkS w Ba g3 go n A0 c0 (rkF n (pre ++ [_])) W; rw [S.out]; exact DD.out⟩
      case done =>
        rintro D ys W hD rfl DS hK
        have kr : W.cell? ⟨g3, 0, none⟩ = some (.slice (some ⟨go, 0, none⟩) n n) := (blk_cell DS.r 0).trans rfl
        have R := Aside0.mk (And.intro hD (And.intro DS hK))
        clear hD DS hK
        go_wp2
        obtain ⟨hD, hS, hK⟩ := R.out
        refine ⟨by simp, .inl ⟨_, _, rfl, run_takeDeferred hK, ?_⟩⟩
        have h2 := RkS.own (F := fun pre : List (Nat × Int) => rkF n pre) (w := w) (Ba := Ba) (g3 := g3) (go := go) (A0 := A0) (c0 := c0) (B := w.heap.size) (Nat.le_refl _) (upto zs zs.length) W _ (some D) hS (grownBy_putObj' W D (.deferred none)) (fun r e => by cases e; exact ⟨Nat.le_trans S5.out.1.bl.size hD, _, hK, rfl⟩)
        have ho := h2.o
        rw [HX.out.2] at ho
        exact ⟨_, results_tmp rfl _ _ _, go, rfl, h2.lo, ho, h2.bl⟩
      case stop =>
        rintro D c pre W _ _ h _
        exact h.elim
end Go.Proofs.Ytfmgoealbaihjaa.Bk
