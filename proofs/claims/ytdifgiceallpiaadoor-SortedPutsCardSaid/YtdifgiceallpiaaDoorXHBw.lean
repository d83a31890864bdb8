/- bwt: a row with an end, and where each end stands, walked by hand. -/
import Derived.Test.YtdifgiceallpiaaDoorXSaDbl
import Derived.Test.YtdifgiceallpiaaDoorXPureRgBack
import Derived.Test.YtdifgiceallpiaaDoorXPx5
import Derived.Test.YtdifgiceallpiaaDoorXSaSrt
set_option linter.unusedVariables false
set_option linter.unusedSimpArgs false
set_option linter.unusedSectionVars false
section
namespace Go.Proofs.YtdifgiceallpiaaDoor.Hd
open Go Go.RowKit YtdifgiceallpiaaDoorW.PrintWords YtdifgiceallpiaaDoorW.PrintLast YtdifgiceallpiaaDoorW.PrintMore YtdifgiceallpiaaDoor.Hw YtdifgiceallpiaaDoor.Com YtdifgiceallpiaaDoor.Cn YtdifgiceallpiaaDoor.P YtdifgiceallpiaaDoor.Bw
attribute [local go_sem] za9 za8 zbi zbj za0 za1 zba zbb
section
variable {P : Program} {ops : Array Oper} {Q : Exit → Act → World → Prop}
theorem box_blk {rest : List Oper} {o : Oper} {a : Act} {W : World} (hg : o.guard = none) (t : TypeId) (x : Operand) (ho : o.op = .box t x) (cells : Array Value) (hx : (a.eval x).cells = cells)
  (h : ∀ g w1, zaa (g = W.heap.size) → zaa (w1.heap[g]? = some (.cells cells t (0, 0))) → zaa (Below W.heap.size W w1) → wpList P ops Q rest (a.put o.dst (.pointer (some ⟨g, 0, none⟩))) w1) : wpList P ops Q (o :: rest) a W := by
 subst hx
 refine wpList_plain hg fun K hK => ?_
 unfold Oper.wp execOp
 simp only [ho, Sem.run_bind, Instr.box, newVar, newRow, run_newObj_alloc, Sem.run_pure, Result.andThen_ok]
 exact hK _ _ (h _ _ ⟨rfl⟩ ⟨zck W _⟩ ⟨zac (Below.refl _ _) _⟩)
end
theorem zero41 : (Value.agg (Array.replicate 257 (.int .i64 0))).cells = ints .i64 (List.replicate 257 0) := by kernel_rfl
theorem info41 : (Tryd.prog.info? 135).map (fun i => (i.zero, i.size, i.bytes)) = some (some (.agg (Array.replicate 257 (.int .i64 0))), 257, 2056) := by kernel_rfl
def lessN (t : List Nat) (x : Nat) : Nat := t.countP (fun y => decide (y < x))
def alike (t : List Nat) (a i x : Nat) : Nat := (List.range i).countP (fun k => decide (k ≠ a) && decide (sgn t a k = x))
def F1 (t : List Nat) (i : Nat) : List Int := tabn 257 (fun j => if j = 0 then 0 else ((t.take i).count (j - 1) : Int))
def F2 (t : List Nat) (i : Nat) : List Int := tabn 257 (fun j => if j < i then (1 + lessN t j : Nat) else (t.count (j - 1) : Int))
def F3 (t : List Nat) (a i : Nat) : List Int := tabn 257 (fun j => (1 + lessN t j + alike t a i j : Nat))
def O3 (t : List Nat) (a i : Nat) : List Int := tabn (t.length + 1) (fun k => if k < i then (bef t a k : Int) else 0)
theorem F1_zero (t : List Nat) : List.replicate 257 (0 : Int) = F1 t 0 := by
 rw [zb8]; unfold F1
 exact zbd (fun j _ => by split <;> simp)
theorem F1_step {t : List Nat} {i x : Nat} (h : t[i]? = some x) : (F1 t i).set (x + 1) (((t.take i).count x : Int) + 1) = F1 t (i + 1) := by
 unfold F1
 rw [tabn_set]
 refine zbd (fun j _ => ?_)
 rw [List.take_add_one, h, List.count_append]
 by_cases e : j = x + 1
 ·rw [if_pos e, e, if_neg (by omega), Nat.add_sub_cancel]; simp
 ·rw [if_neg e]
  by_cases e0 : j = 0
  ·rw [if_pos e0, if_pos e0]
  ·rw [if_neg e0, if_neg e0]
   have : ¬ x = j - 1 := by omega
   simp [List.count_singleton, this]
theorem F1_at {t : List Nat} {i x : Nat} (h : x + 1 < 257) : (F1 t i).getD (x + 1) 0 = ((t.take i).count x : Int) := by
 unfold F1; rw [zbr h, if_neg (by omega), Nat.add_sub_cancel]
theorem lessN_zero (t : List Nat) : lessN t 0 = 0 := by unfold lessN; rw [List.countP_eq_zero]; intro a _; simp
theorem lessN_succ (t : List Nat) (x : Nat) : lessN t (x + 1) = lessN t x + t.count x := by
 unfold lessN
 induction t with
 | nil => rfl
 | cons y t ih =>
  rw [List.countP_cons, List.countP_cons, List.count_cons, ih]
  by_cases h1 : y < x
  ·rw [if_pos (decide_eq_true (by omega)), if_pos (decide_eq_true h1), if_neg (by simp; omega)]; omega
  ·by_cases h2 : y = x
   ·rw [if_pos (decide_eq_true (by omega)), if_neg (by simp; omega), if_pos (by simp [h2])]; omega
   ·rw [if_neg (by simp; omega), if_neg (by simp; omega), if_neg (by simp; omega)]; omega
theorem lessN_le (t : List Nat) (x : Nat) : lessN t x ≤ t.length := List.countP_le_length
theorem alike_le (t : List Nat) (a i x : Nat) : alike t a i x ≤ i := by
 have := List.countP_le_length (p := fun k => decide (k ≠ a) && decide (sgn t a k = x)) (l := List.range i)
 rw [List.length_range] at this
 exact this
theorem F2_one (t : List Nat) : (F1 t t.length).set 0 1 = F2 t 1 := by
 unfold F1 F2
 rw [tabn_set]
 refine zbd (fun j _ => ?_)
 by_cases e : j = 0
 ·rw [if_pos e, if_pos (by omega), e, lessN_zero]; rfl
 ·rw [if_neg e, if_neg e, if_neg (by omega), List.take_length]
theorem F2_hi {t : List Nat} {i : Nat} (h : i < 257) : (F2 t i).getD i 0 = (t.count (i - 1) : Int) := by unfold F2; rw [zbr h, if_neg (by omega)]
theorem F2_lo {t : List Nat} {i : Nat} (h : i < 257) (h0 : 0 < i) : (F2 t i).getD (i - 1) 0 = (1 + lessN t (i - 1) : Nat) := by unfold F2; rw [zbr (by omega), if_pos (by omega)]
theorem F2_step {t : List Nat} {i : Nat} (h0 : 0 < i) : (F2 t i).set i ((t.count (i - 1) : Int) + (1 + lessN t (i - 1) : Nat)) = F2 t (i + 1) := by
 unfold F2
 rw [tabn_set]
 refine zbd (fun j _ => ?_)
 by_cases e : j = i
 ·rw [if_pos e, e, if_pos (by omega)]
  obtain ⟨q, rfl⟩ : ∃ q, i = q + 1 := ⟨i - 1, by omega⟩
  rw [Nat.add_sub_cancel, lessN_succ]; omega
 ·rw [if_neg e]
  by_cases h : j < i
  ·rw [if_pos h, if_pos (by omega)]
  ·rw [if_neg h, if_neg (by omega)]
theorem F3_zero (t : List Nat) (a : Nat) : F2 t 257 = F3 t a 0 := by
 unfold F2 F3
 exact zbd (fun j hj => by rw [if_pos hj]; rfl)
theorem alike_succ (t : List Nat) (a i x : Nat) : alike t a (i + 1) x = alike t a i x + if i ≠ a ∧ sgn t a i = x then 1 else 0 := by
 unfold alike
 rw [List.range_succ, List.countP_append, List.countP_singleton]
 congr 1
 by_cases h1 : i = a <;> by_cases h2 : sgn t a i = x <;> simp [h1, h2]
theorem F3_at {t : List Nat} {a i x : Nat} (h : x < 257) : (F3 t a i).getD x 0 = (1 + lessN t x + alike t a i x : Nat) := by unfold F3; rw [zbr h]
theorem F3_step {t : List Nat} {a i x : Nat} (hn : i ≠ a) (hx : sgn t a i = x) : (F3 t a i).set x (((1 + lessN t x + alike t a i x : Nat) : Int) + 1) = F3 t a (i + 1) := by
 unfold F3
 rw [tabn_set]
 refine zbd (fun j _ => ?_)
 rw [alike_succ]
 by_cases e : j = x
 ·rw [if_pos e, if_pos ⟨hn, by rw [hx, e]⟩, e]; omega
 ·rw [if_neg e, if_neg (fun h => e (by rw [← h.2, hx]))]; omega
theorem F3_skip {t : List Nat} {a : Nat} : F3 t a a = F3 t a (a + 1) := by
 unfold F3
 refine zbd (fun j _ => ?_)
 rw [alike_succ, if_neg (fun h => h.1 rfl)]; rfl
theorem O3_zero (t : List Nat) (a : Nat) : List.replicate (t.length + 1) (0 : Int) = O3 t a 0 := by
 rw [zb8]; unfold O3
 exact zbd (fun j _ => by rw [if_neg (by omega)])
theorem O3_step {t : List Nat} {a i x : Nat} (ha : a ≤ t.length) (hi : i ≤ t.length) (hn : i ≠ a) (hx : sgn t a i = x) : (O3 t a i).set i (1 + lessN t x + alike t a i x : Nat) = O3 t a (i + 1) := by
 unfold O3
 rw [tabn_set]
 refine zbd (fun j _ => ?_)
 by_cases e : j = i
 ·rw [if_pos e, if_pos (by omega), e, bef_eq t ha hi hn, hx]; rfl
 ·rw [if_neg e]
  by_cases h : j < i
  ·rw [if_pos h, if_pos (by omega)]
  ·rw [if_neg h, if_neg (by omega)]
theorem O3_skip {t : List Nat} {a : Nat} : O3 t a a = O3 t a (a + 1) := by
 unfold O3
 refine zbd (fun j _ => ?_)
 by_cases h : j < a
 ·rw [if_pos h, if_pos (by omega)]
 ·rw [if_neg h]
  by_cases e : j = a
  ·rw [if_pos (by omega), e]; unfold bef; rw [if_pos rfl]; rfl
  ·rw [if_neg (by omega)]
theorem O3_all (t : List Nat) (a : Nat) : O3 t a (t.length + 1) = tabn (t.length + 1) (fun k => (bef t a k : Int)) := by
 unfold O3
 exact zbd (fun j hj => by rw [if_pos hj])
theorem sgn_lt {t : List Nat} (h : ∀ x ∈ t, x < 256) (a i : Nat) : sgn t a i < 256 := by
 have key : ∀ j, t.getD j 0 < 256 := fun j => by
  rw [List.getD_eq_getElem?_getD]
  cases e : t[j]? with
  | none => simp
  | some v => exact h v (List.mem_of_getElem? e)
 unfold sgn
 split
 ·exact key _
 ·exact key _
theorem sign_at {t : ByteArray} {a i : Nat} (ha : a ≤ t.size) (hi : i ≤ t.size) (hn : i ≠ a) (hs : t.size ≤ 1073741824) : zbz.f t (a : Int) (i : Int) = some ((sgn (nb t) a i : Nat) : Int) := by
 unfold zbz.f sgn
 by_cases h : a < i
 ·rw [if_pos (by omega), if_pos h, w64 (by omega) (by omega), show (i : Int) - 1 = ((i - 1 : Nat) : Int) from by omega, if_pos (by omega), if_pos (by omega), bt_nb]
 ·rw [if_neg (by omega), if_neg h, if_pos (by omega), if_pos (by omega), bt_nb]
def Col (W : World) (g : Nat) (t : ByteArray) (a : Nat) : Prop := W.heap[g]? = some (.cells #[.string t, .int .i64 (a : Int)] 108 (0, 0))
theorem sizeC : (Tryd.prog.info? 108).map (·.size) = some 2 := by kernel_rfl
theorem Col_0 {W : World} {g : Nat} {t : ByteArray} {a : Nat} (h : Col W g t a) : W.cell? ⟨g, 0, none⟩ = some (.string t) := (zah h 0).trans rfl
theorem Col_1 {W : World} {g : Nat} {t : ByteArray} {a : Nat} (h : Col W g t a) : W.cell? ⟨g, 1, none⟩ = some (.int .i64 (a : Int)) := (zah h 1).trans rfl
set_option maxHeartbeats 4000000 in
set_option maxRecDepth 100000 in
theorem ahead_ok (t : ByteArray) (a : Nat) (w : World) (ha : a ≤ t.size) (hs : t.size ≤ 1073741824) :
  Calls Tryd.prog 63 #[.agg #[.string t, .int .i64 (a : Int)]] w fun e w' => ∃ g, e = .returned (.slice (some ⟨g, 0, none⟩) (t.size + 1) (t.size + 1)) ∧ w.heap.size ≤ g ∧ Blk w' g .i64 3 (tabn (t.size + 1) (fun k => (bef (nb t) a k : Int))) ∧ Below w.heap.size w w' := by
 have HA := zaa.mk ha
 have HS := zaa.mk hs
 have hu := Tryd.underlying108
 clear ha hs
 go_enter Tryd.func63, Tryd.ntmps63
 go_wp2_with (first
  | ((with_reducible refine zay (N := 1) rfl ?_); refine box_blk rfl 108 (.tmp 0) rfl _ rfl ?_; intro gx w1 GX CB B1)
  | ((with_reducible refine zay (N := 3) rfl ?_); refine zcs rfl rfl info41 .i64 _ zero41 ?_; intro g3 w2 G3 K3 B2; have C2 := zaa.mk (show Col w2 gx t a from za6 CB.out B2.out); have k0 := Col_0 C2.out))
 have NE := zaa.mk (show gx ≠ g3 from Nat.ne_of_lt (Nat.lt_of_lt_of_le (zb0 CB.out) G3.out))
 have G1 := zaa.mk (show w.heap.size ≤ gx from Nat.le_of_eq GX.out.symm)
 have G3' := zaa.mk (Nat.le_trans B1.out.size G3.out)
 have B3 := zaa.mk (zaf B1.out B2.out)
 clear CB B1 B2 G3 k0 GX
 go_loopg [12] t.size (fun q v12 w' => ∃ (L : Int) (m : Nat), v12 = .int .i64 L ∧ zaa (L = (m : Int) ∧ m + q = t.size) ∧ zaa (Col w' gx t a) ∧ zaa (Blk w' g3 .i64 135 (F1 (nb t) m)) ∧ zaa (Below w.heap.size w w'))
 case atStart => exact ⟨0, 0, rfl, ⟨rfl, by omega⟩, C2, ⟨by rw [← F1_zero]; exact K3.out⟩, B3⟩
 case round =>
  clear C2 K3 B3
  obtain ⟨L, m, rfl, HM, C, K, B⟩ := hrel
  cases gk with
  | zero =>
   have t1 : decide (L < (t.size : Int)) = false := decide_eq_false (by have := HM.out; omega)
   obtain rfl : m = t.size := by have := HM.out; omega
   have k1 := K.out.cell 0 (by unfold F1; rw [za2]; omega)
   have hf := K.out.free 0
   go_wp2
   have C1 := zaa.mk (show Col (wr.setCell ⟨g3, 0, none⟩ (.int .i64 1)) gx t a from zbo C.out NE.out _)
   have K1 := zaa.mk (show Blk (wr.setCell ⟨g3, 0, none⟩ (.int .i64 1)) g3 .i64 135 (F2 (nb t) 1) by
    have h := K.out.put 0 1
    rw [show t.size = (nb t).length from (zas t).symm, F2_one] at h
    exact h)
   have B1 := zaa.mk (show Below w.heap.size w (wr.setCell ⟨g3, 0, none⟩ (.int .i64 1)) from zat B.out G3'.out)
   clear C K B k1 hf HM
   generalize wr.setCell ⟨g3, 0, none⟩ (.int .i64 1) = wr at C1 K1 B1
   go_loopg [5] 256 (fun q v5 w' => ∃ (L : Int) (m : Nat), v5 = .int .i64 L ∧ zaa (L = (m : Int) ∧ m + q = 257 ∧ 0 < m) ∧ zaa (Col w' gx t a) ∧ zaa (Blk w' g3 .i64 135 (F2 (nb t) m)) ∧ zaa (Below w.heap.size w w'))
   case atStart => exact ⟨1, 1, rfl, ⟨rfl, by omega, by omega⟩, C1, K1, B1⟩
   case round =>
    clear C1 K1 B1
    obtain ⟨L, m, rfl, HM, C, K, B⟩ := hrel
    cases gk with
    | zero =>
     have t1 : decide (L ≤ 256) = false := decide_eq_false (by have := HM.out; omega)
     obtain rfl : m = 257 := by have := HM.out; omega
     rw [F3_zero (nb t) a] at K
     have k0 := Col_0 C.out
     obtain ⟨n1, hn1⟩ : ∃ n : Nat, t.size + 1 = n := ⟨_, rfl⟩
     have e1 : wrap64 ((t.size : Int) + 1) = (n1 : Int) := by rw [w64 (by have := HS.out; omega) (by have := HS.out; omega)]; omega
     have N1 := zaa.mk hn1
     clear HM hn1
     go_wp2_with (first
      | ((with_reducible refine zay (N := 44) rfl ?_); refine zce rfl rfl n1 (congrArg (Value.int .i64) e1) (congrArg (Value.int .i64) e1) Tryd.underlying29 .i64 info3 (by decide) (by have := HS.out; have := N1.out; omega) ?_; intro g6 w6 G6 K6 B6))
     have C6 := zaa.mk (show Col w6 gx t a from za6 C.out B6.out)
     have K3 := zaa.mk (K.out.below B6.out)
     have NE6 := zaa.mk (show g3 ≠ g6 from Nat.ne_of_lt (Nat.lt_of_lt_of_le K.out.lt G6.out))
     have NX6 := zaa.mk (show gx ≠ g6 from Nat.ne_of_lt (Nat.lt_of_lt_of_le (zb0 C.out) G6.out))
     have G6' := zaa.mk (Nat.le_trans B.out.size G6.out)
     have B7 := zaa.mk (zaf B.out B6.out)
     have O6 := zaa.mk (show Blk w6 g6 .i64 3 (O3 (nb t) a 0) by
      have h := K6.out
      rw [← N1.out, ← zas, O3_zero (nb t) a] at h
      exact h)
     clear C K B B6 G6 K6 k0
     go_loopg [47] n1 (fun q v47 w' => ∃ (L : Int) (m : Nat), v47 = .int .i64 L ∧ zaa (L = (m : Int) ∧ m + q = n1) ∧ zaa (Col w' gx t a) ∧ zaa (Blk w' g3 .i64 135 (F3 (nb t) a m)) ∧ zaa (Blk w' g6 .i64 3 (O3 (nb t) a m)) ∧ zaa (Below w.heap.size w w'))
     case atStart => exact ⟨0, 0, rfl, ⟨rfl, by omega⟩, C6, K3, O6, B7⟩
     case round =>
      clear C6 K3 O6 B7
      obtain ⟨L, m, rfl, HM, C, K, O, B⟩ := hrel
      cases gk with
      | zero =>
       have t1 : decide (L < (n1 : Int)) = false := decide_eq_false (by have := HM.out; omega)
       go_wp2
       go_ret
       refine ⟨g6, by rw [N1.out]; rfl, G6'.out, ?_, B.out⟩
       have h := O.out
       rw [show m = (nb t).length + 1 from by rw [zas]; have := HM.out; have := N1.out; omega, O3_all, zas] at h
       exact h
      | succ q =>
       have t1 : decide (L < (n1 : Int)) = true := decide_eq_true (by have := HM.out; omega)
       have k1 := Col_1 C.out
       by_cases hma : m = a
       ·have t2 : (L != (a : Int)) = false := bne_eq_false_iff_eq.mpr (by have := HM.out; omega)
        have MA := zaa.mk hma
        clear hma
        go_wp2
        go_roundg q
        case measure => omega
        case rel =>
         obtain rfl := MA.out
         refine ⟨wrap64 (L + 1), m + 1, rfl, ⟨?_, by have := HM.out; omega⟩, C, ⟨?_⟩, ⟨?_⟩, B⟩
         ·have := HM.out; have := HS.out; have := N1.out; rw [w64 (by omega) (by omega)]; omega
         ·rw [← F3_skip]; exact K.out
         ·rw [← O3_skip]; exact O.out
       ·have t2 : (L != (a : Int)) = true := bne_iff_ne.mpr (by have := HM.out; omega)
        have MA := zaa.mk hma
        clear hma
        obtain ⟨x, hx⟩ : ∃ x, sgn (nb t) a m = x := ⟨_, rfl⟩
        have SG := zaa.mk (show zbz.f t (a : Int) L = some (x : Int) by
         rw [HM.out.1, sign_at HA.out (by have := HM.out; have := N1.out; omega) MA.out HS.out, hx])
        have hxl : x < 256 := by rw [← hx]; exact sgn_lt (nb_lt t) a m
        have p1 : (0 ≤ L) = True := eq_true (by have := HM.out; omega)
        have q1 : (L < (n1 : Int)) = True := eq_true (by have := HM.out; omega)
        have p3 : ((x : Int) < 257) = True := eq_true (by omega)
        have q3 : (x < 257) = True := eq_true (by omega)
        have eN : L.toNat = m := by have := HM.out; omega
        have hml : m ≤ (nb t).length := by rw [zas]; have := HM.out; have := N1.out; omega
        have hk3 := K.out.cell x (by unfold F3; rw [za2]; omega)
        rw [F3_at (by omega)] at hk3
        have h3 := F3_step (t := nb t) MA.out hx
        have ho := O3_step (t := nb t) (by rw [zas]; exact HA.out) hml MA.out hx
        have b1 := lessN_le (nb t) x
        have b2 := alike_le (nb t) a m x
        rw [zas] at b1 hml
        obtain ⟨v, hvd⟩ : ∃ v, 1 + lessN (nb t) x + alike (nb t) a m x = v := ⟨_, rfl⟩
        rw [hvd] at hk3 h3 ho
        have hv : v ≤ 4294967296 := by rw [← hvd]; have := HS.out; omega
        have e5 : wrap64 ((v : Int) + 1) = (v : Int) + 1 := w64 (by omega) (by omega)
        have HX := zaa.mk (And.intro h3 (And.intro ho eN))
        have NEb := NE6.out
        have HL := zaa.mk (show L.toNat < (O3 (nb t) a m).length by unfold O3; rw [za2, zas]; omega)
        clear hx hxl b1 b2 hml h3 ho eN hv hvd
        go_wp2_with (first
         | ((with_reducible refine zay (N := 54) rfl ?_); refine wpList_load_row rfl 108 (.tmp 1) rfl gx rfl 108 #[.string t, .int .i64 (a : Int)] (0, 0) _ C.out Tryd.underlying108 rfl sizeC ?_)
         | (go_at_call 62; (with_reducible refine (zbz.calls t (a : Int) L (x : Int) _ SG.out).mono ?_); rintro e w4 ⟨rfl, hB⟩; have C4 := zaa.mk (show Col w4 gx t a from za6 C.out hB); have K4 := zaa.mk (K.out.below hB); have O4 := zaa.mk (O.out.below hB); have B4 := zaa.mk (zaf B.out hB); have k3 := (hB.cell (World.block_lt_of_cell? wr _ hk3)).trans hk3; have f3 := K4.out.free x; have f6 := O4.out.free L.toNat; have k6 := O4.out.cell L.toNat HL.out; clear hB hk3))
        go_roundg q
        case measure => omega
        case rel =>
         refine ⟨wrap64 (L + 1), m + 1, rfl, ⟨?_, by have := HM.out; omega⟩, ⟨zbo (zbo C4.out NX6.out _) NE.out _⟩, ⟨?_⟩, ⟨?_⟩, ⟨zat (zat B4.out G6'.out) G3'.out⟩⟩
         ·have := HM.out; have := HS.out; have := N1.out; rw [w64 (by omega) (by omega)]; omega
         ·rw [← HX.out.1]
          exact (K4.out.far NE6.out _).put _ _
         ·rw [HX.out.2.2, ← HX.out.2.1]
          exact (O4.out.put _ _).far NE6.out.symm _
    | succ q =>
     have t1 : decide (L ≤ 256) = true := decide_eq_true (by have := HM.out; omega)
     have p1 : (0 ≤ L) = True := eq_true (by have := HM.out; omega)
     have q1 : (L < 257) = True := eq_true (by have := HM.out; omega)
     have eM : IntKind.i64.wrap (L - 1) = L - 1 := by rw [i64_w]; exact w64 (by have := HM.out; omega) (by have := HM.out; omega)
     have p2 : (0 ≤ IntKind.i64.wrap (L - 1)) = True := eq_true (by have := HM.out; omega)
     have q2 : (IntKind.i64.wrap (L - 1) < 257) = True := eq_true (by have := HM.out; omega)
     have eN : L.toNat = m := by have := HM.out; omega
     have eN2 : (IntKind.i64.wrap (L - 1)).toNat = m - 1 := by have := HM.out; omega
     have c1 : wr.cell? ⟨g3, L.toNat, none⟩ = some (.int .i64 ((nb t).count (m - 1) : Int)) := by
      have := K.out.cell m (by unfold F2; rw [za2]; have := HM.out; omega)
      rw [F2_hi (by have := HM.out; omega)] at this
      rw [eN]; exact this
     have c2 : wr.cell? ⟨g3, (IntKind.i64.wrap (L - 1)).toNat, none⟩ = some (.int .i64 ((1 + lessN (nb t) (m - 1) : Nat) : Int)) := by
      have := K.out.cell (m - 1) (by unfold F2; rw [za2]; have := HM.out; omega)
      rw [F2_lo (by have := HM.out; omega) HM.out.2.2] at this
      rw [eN2]; exact this
     have ff := K.out.free L.toNat
     have hst := F2_step (t := nb t) HM.out.2.2
     have h1 := List.count_le_length (a := m - 1) (l := nb t)
     have h2 := lessN_le (nb t) (m - 1)
     rw [zas] at h1 h2
     generalize (nb t).count (m - 1) = u at c1 hst h1
     generalize lessN (nb t) (m - 1) = v at c2 hst h2
     obtain ⟨V, hV⟩ : ∃ V : Int, ((1 + v : Nat) : Int) = V := ⟨_, rfl⟩
     rw [hV] at c2 hst
     have EV := zaa.mk (show IntKind.i64.wrap ((u : Int) + V) = (u : Int) + V by rw [i64_w, w64 (by omega) (by have := HS.out; omega)])
     have HX := zaa.mk (And.intro hst eN)
     clear h1 h2 hst hV eN eN2 eM
     go_wp2
     go_still_tail 9, (by kernel_rfl)
     change wpList _ _ _ _ _ wr.drew
     rw [EV.out]
     go_wp2
     go_roundg q
     case measure => omega
     case rel =>
      refine ⟨wrap64 (L + 1), m + 1, rfl, ⟨?_, by have := HM.out; omega, by omega⟩, ⟨zbo (w := wr.drew) C.out NE.out _⟩, ⟨?_⟩, ⟨zat (zbl B.out) G3'.out⟩⟩
      ·have := HM.out; rw [w64 (by omega) (by omega)]; omega
      ·rw [← HX.out.1, HX.out.2]
       exact K.out.drew.put _ _
  | succ q =>
   have t1 : decide (L < (t.size : Int)) = true := decide_eq_true (by have := HM.out; omega)
   have p1 : (0 ≤ L) = True := eq_true (by have := HM.out; omega)
   have q1 : (L < (t.size : Int)) = True := eq_true (by have := HM.out; omega)
   have hx := bt_at t L
   have k0 := Col_0 C.out
   have hb : bt t L = (((nb t).getD m 0 : Nat) : Int) := by rw [HM.out.1, bt_nb]
   have hat : (nb t)[m]? = some ((nb t).getD m 0) := by rw [List.getD_eq_getElem?_getD, List.getElem?_eq_getElem (by rw [zas]; have := HM.out; omega)]; rfl
   have hlt := nb_lt t _ (List.mem_of_getElem? hat)
   generalize (nb t).getD m 0 = x at hb hat hlt
   have e1 : wrap64 (bt t L) = (x : Int) := by rw [hb, w64 (by omega) (by omega)]
   obtain ⟨J, hJ⟩ : ∃ J, wrap64 ((x : Int) + 1) = J := ⟨_, rfl⟩
   have hJx : J = ((x + 1 : Nat) : Int) := by rw [← hJ, w64 (by omega) (by omega)]; rfl
   have p2 : (0 ≤ J) = True := eq_true (by omega)
   have q2 : (J < 257) = True := eq_true (by omega)
   have eJ : J.toNat = x + 1 := by omega
   have k1 := K.out.cell (x + 1) (by unfold F1; rw [za2]; omega)
   rw [F1_at (by omega), ← eJ] at k1
   have hf := K.out.free J.toNat
   have hst := F1_step hat
   have hcl : (((nb t).take m).count x : Int) ≤ 1073741824 := by
    have h1 := List.count_le_length (a := x) (l := (nb t).take m)
    rw [List.length_take, zas] at h1
    have := HS.out
    omega
   generalize ((nb t).take m).count x = c at k1 hst hcl
   have e2 : wrap64 ((c : Int) + 1) = (c : Int) + 1 := w64 (by omega) (by omega)
   have HX := zaa.mk (And.intro hst eJ)
   have E2 := zaa.mk e2
   clear hb hat hlt hJx hst hcl e2 eJ
   go_wp2
   go_roundg q
   case measure => omega
   case rel =>
    refine ⟨wrap64 (L + 1), m + 1, rfl, ⟨?_, by have := HM.out; omega⟩, ⟨zbo C.out NE.out _⟩, ⟨?_⟩, ⟨zat B.out G3'.out⟩⟩
    ·have := HM.out; have := HS.out; rw [w64 (by omega) (by omega)]; omega
    ·rw [E2.out, ← HX.out.1, ← HX.out.2]
     exact K.out.put _ _
end Go.Proofs.YtdifgiceallpiaaDoor.Hd
end
section
namespace Go.Proofs.YtdifgiceallpiaaDoor.Pure
open Go Go.RowKit Go.Proofs.YtdifgiceallpiaaDoor.P Go.Proofs.YtdifgiceallpiaaDoorW.PrintWords Go.Proofs.YtdifgiceallpiaaDoorW.PrintLast Go.Proofs.YtdifgiceallpiaaDoor.Com Go.Proofs.YtdifgiceallpiaaDoor.Hd Go.Proofs.YtdifgiceallpiaaDoor.Hw Go.Proofs.YtdifgiceallpiaaDoor.Cn Go.Proofs.YtdifgiceallpiaaDoor.Sais Go.Proofs.YtdifgiceallpiaaDoor.Bw
theorem str_size {l : List Nat} (h : ∀ x ∈ l, x < 256) : (strOfNums (iN l)).size = l.length := by rw [← zas, show nb (strOfNums (iN l)) = l from nb_str l h]
theorem bkL_lt {t : List Nat} {a : Nat} (ht : ∀ x ∈ t, x < 256) (k : Nat) : ∀ (i : Nat) (s : List Nat), (∀ x ∈ s, x < 256) → ∀ x ∈ bkL t a k i s, x < 256 := by
  induction k with
  | zero => intro i s h; exact h
  | succ k ih =>
    intro i s h
    unfold bkL
    split
    · exact h
    · exact ih _ _ (fun y hy => by rcases List.mem_cons.1 hy with e | e; (rw [e]; exact sgn_lt ht a i); exact h y e)
/-- What the last test gives. -/
def fin (t : ByteArray) (a : Int) (y : ByteArray) : ByteArray × Int := if tS y = t ∧ (tA y : Int) = a then (y, 0) else (⟨#[]⟩, 4)
theorem bkO_fin {t : ByteArray} {a : Nat} (ha : a ≤ t.size) (h0 : a = 0 → t.size = 0) : bkO t (a : Int) = fin t (a : Int) (strOfNums (iN (bkL (nb t) a t.size 0 []))) := by
  unfold bkO
  rw [if_neg (by rintro (h | h | ⟨h1, h2⟩); (omega); (omega); exact h2 (h0 (by omega))), Int.toNat_natCast]
  cases e : bkR (nb t) a t.size 0 [] with
  | none =>
    have hl := bkR_none _ _ _ e
    have hlt := bkL_lt (nb_lt t) (a := a) t.size 0 [] (fun _ h => nomatch h)
    show _ = fin _ _ _
    unfold fin
    rw [if_neg]
    rintro ⟨h, _⟩
    have := congrArg ByteArray.size h
    rw [tS_size, str_size hlt] at this
    rw [List.length_nil] at hl
    omega
  | some l =>
    have hl := bkR_some _ _ _ _ e
    rw [hl.2]
    rfl
theorem str_nb (s : ByteArray) : strOfNums (iN (nb s)) = s := nb_inj (nb_str _ (nb_lt s))
/-- What is turned comes back. -/
theorem bkO_tn (s : ByteArray) : bkO (tS s) (tA s : Int) = (s, 0) := by
  have hR := rws_ok s
  have hl := tA_lt s
  have h0 := tA_at s
  rw [bkO_fin (by rw [tS_size]; exact tA_le s) (fun e => by
    rw [tS_size]
    rcases Nat.eq_zero_or_pos s.size with z | z
    · exact z
    · have := (tn_cons z).2; omega), nb_tS, tS_size]
  have hb := tn_bk hR hl h0 s.size 0 (by rw [rws_len]; omega) rfl
  rw [List.drop_eq_nil_of_le (by rw [zas]; exact Nat.le_refl _)] at hb
  unfold tL
  rw [hb, str_nb]
  unfold fin
  rw [if_pos ⟨rfl, rfl⟩]
end Go.Proofs.YtdifgiceallpiaaDoor.Pure
end
