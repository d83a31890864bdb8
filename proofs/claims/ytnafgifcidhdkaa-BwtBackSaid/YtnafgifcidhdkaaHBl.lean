/- The law BwtBack, walked by hand (an array of counts). -/
import Derived.Test.YtnafgifcidhdkaaPureBwB
import Derived.Test.YtnafgifcidhdkaaPureBwA
import Derived.Test.YtnafgifcidhdkaaHBb
import Derived.StillTailTactics
import Derived.DeepKeys
set_option linter.unusedVariables false
set_option linter.unusedSimpArgs false
set_option linter.unusedSectionVars false
namespace Go.Proofs.Ytnafgifcidhdkaa.P
open Go Go.RowKit Go.Proofs.YtnafgifcidhdkaaW.PrintWords Go.Proofs.YtnafgifcidhdkaaW.PrintLast Go.Proofs.YtnafgifcidhdkaaW.PrintMore Go.Proofs.Ytnafgifcidhdkaa.Hw Go.Proofs.Ytnafgifcidhdkaa.Com Go.Proofs.Ytnafgifcidhdkaa.Cn Go.Proofs.Ytnafgifcidhdkaa.Pure Go.Proofs.Ytnafgifcidhdkaa.Hd Go.Proofs.Ytnafgifcidhdkaa.Bw Go.Proofs.Ytnafgifcidhdkaa.Sais
attribute [local go_sem] max2_int min2_int max_two min_two max_three min_three max_four min_four
theorem zero256 : (Value.agg (Array.replicate 256 (.int .i64 0))).cells = ints .i64 (List.replicate 256 0) := by kernel_rfl
theorem info256 : (Try.prog.info? 30).map (fun i => (i.zero, i.size, i.bytes)) = some (some (.agg (Array.replicate 256 (.int .i64 0))), 256, 2048) := by kernel_rfl
theorem zv256 (w : World) : (zeroValue 30).run Try.prog w = .ok (.agg (Array.replicate 256 (.int .i64 0))) w := by
  obtain ⟨i, hi, hz, _, _⟩ := info_parts info256
  simp [zeroValue, typeInfo, hi, hz]
attribute [local go_sem] zv256
theorem eq256 (w : World) : (Op.equalIn 10000 30 (.agg (ints .i64 (List.replicate 256 0))) (.agg (Array.replicate 256 (.int .i64 0)))).run Try.prog w = .ok true w := by
  have h := Go.run_equalIn_deep (P := Try.prog) 9998 2 30 (by kernel_rfl)
  have hz : Array.replicate 256 (Value.int .i64 0) = ints .i64 (List.replicate 256 0) := zero256
  rw [hz]
  have h1 : Value.formed Try.prog 30 (.agg (ints .i64 (List.replicate 256 0))) = true := by kernel_rfl
  have h2 : (Try.prog.keyLits 10 30 (Value.agg (ints .i64 (List.replicate 256 0))).cells.toList).isSome = true := by kernel_rfl
  obtain ⟨la, hla⟩ := Option.isSome_iff_exists.1 h2
  obtain ⟨r, hr, hi⟩ := h w 10 10 _ _ la la h1 h1 hla hla
  rw [hi.2 rfl] at hr
  exact hr
/-- How often each byte stands in one row more than in the other. -/
def DF (x y : List Nat) (i : Nat) : List Int := tabn 256 (fun b => ((x.take i).count b : Int) - ((y.take i).count b : Int))
def DM (x y : List Nat) (i : Nat) : List Int := tabn 256 (fun b => ((x.take (i + 1)).count b : Int) - ((y.take i).count b : Int))
theorem DF_zero (x y : List Nat) : List.replicate 256 (0 : Int) = DF x y 0 := by
  rw [tabn_zero]; unfold DF
  exact tabn_congr (fun j _ => by simp)
theorem cnt_take {x : List Nat} {i u : Nat} (h : x[i]? = some u) (b : Nat) : (x.take (i + 1)).count b = (x.take i).count b + if b = u then 1 else 0 := by
  rw [List.take_add_one, h, List.count_append]
  by_cases e : b = u
  · rw [if_pos e, e]; simp
  · rw [if_neg e]
    have : ¬ u = b := fun z => e z.symm
    simp [List.count_singleton, this]
theorem DM_step {x y : List Nat} {i u : Nat} (h : x[i]? = some u) : (DF x y i).set u ((((x.take i).count u : Int) - ((y.take i).count u : Int)) + 1) = DM x y i := by
  unfold DF DM
  rw [tabn_set]
  refine tabn_congr (fun j _ => ?_)
  rw [cnt_take h]
  by_cases e : j = u
  · rw [if_pos e, if_pos e, e]; omega
  · rw [if_neg e, if_neg e]; omega
theorem DF_step {x y : List Nat} {i v : Nat} (h : y[i]? = some v) : (DM x y i).set v ((((x.take (i + 1)).count v : Int) - ((y.take i).count v : Int)) - 1) = DF x y (i + 1) := by
  unfold DF DM
  rw [tabn_set]
  refine tabn_congr (fun j _ => ?_)
  rw [cnt_take h]
  by_cases e : j = v
  · rw [if_pos e, if_pos e, e]; omega
  · rw [if_neg e, if_neg e]; omega
theorem DF_end {x y : List Nat} (h : x.Perm y) : DF x y x.length = List.replicate 256 0 := by
  rw [tabn_zero]; unfold DF
  refine tabn_congr (fun j _ => ?_)
  rw [List.take_length, h.length_eq, List.take_length, h.count_eq]; omega
theorem at_of {s : ByteArray} {i : Nat} (h : i < s.size) : (nb s)[i]? = some ((nb s).getD i 0) := by
  rw [List.getD_eq_getElem?_getD, List.getElem?_eq_getElem (by rw [nb_length]; exact h)]; rfl
set_option maxHeartbeats 8000000 in
set_option maxRecDepth 100000 in
theorem BwtBack_walk (s : ByteArray) (w : World) : Calls Try.prog 4 #[.string s] w fun e w' => e = .returned (.bool true) ∧ Below w.heap.size w w' := by
  by_cases h1 : (s.size : Int) > 1000
  · have t1 : decide (1000 < (s.size : Int)) = true := decide_eq_true h1
    have t1b : decide (1000 < s.size) = true := decide_eq_true (by omega)
    clear h1
    go_enter Try.func4, Try.ntmps4
    go_wp2_with (first
      | (go_at_call 5; (with_reducible refine (gladstonelaw48_awake.calls 40 true _ awake_true).mono ?_); rintro e w4 ⟨rfl, hB⟩; have B4 := Aside0.mk hB; clear hB))
    go_ret
    exact ⟨rfl, B4.out⟩
  · have t1 : decide (1000 < (s.size : Int)) = false := decide_eq_false h1
    have t1b : decide (1000 < s.size) = false := decide_eq_false (by omega)
    have HS := Aside0.mk (show s.size ≤ 1000 by omega)
    clear h1
    obtain ⟨kk, hk⟩ := (turn_ev (s := s) (by have := HS.out; omega)).rounds
    have HK := Aside0.mk hk
    have HBk := Aside0.mk (show bwt_Back.f (tS s) (tA s : Int) = some (s, 0) by unfold bwt_Back.f; rw [if_pos (by rw [tS_size]; have := HS.out; omega), bkO_tn])
    have HT := Aside0.mk (tS_size s)
    have HP := Aside0.mk (show (nb s).Perm (nb (tS s)) by rw [nb_tS]; exact (tn_perm (rws_ok s) (tA_lt s) (tA_at s)).symm)
    clear hk
    generalize tS s = t at HK HBk HT HP
    have t2 : ((t.size : Int) != (s.size : Int)) = false := bne_eq_false_iff_eq.mpr (by rw [HT.out])
    have t2b : (t.size != s.size) = false := bne_eq_false_iff_eq.mpr HT.out
    go_enter Try.func4, Try.ntmps4
    go_wp2_with (first
      | (go_at_call 6; (with_reducible refine (bwt_Turn.calls kk s t (tA s : Int) _ HK.out).mono ?_); rintro e w3 ⟨rfl, hB⟩; have B3 := Aside0.mk hB; clear hB)
      | (go_at_call 8; (with_reducible refine (bwt_Back.calls t (tA s : Int) s 0 _ HBk.out).mono ?_); rintro e w4 ⟨rfl, hB⟩; have B4 := Aside0.mk (below_step B3.out hB); clear hB)
      | ((with_reducible refine gate_dst (N := 7) rfl ?_); refine alloc_blk rfl rfl info256 .i64 _ zero256 ?_; intro gn w5 G5 K5 B5))
    have G5' := Aside0.mk (Nat.le_trans B4.out.size G5.out)
    have B6 := Aside0.mk (below_step B4.out B5.out)
    clear B3 B4 B5 G5 t1 t1b t2 t2b
    go_loopg [8] s.size (fun q v8 w' => ∃ (L : Int) (m : Nat), v8 = .int .i64 L ∧ Aside0 (L = (m : Int) ∧ m + q = s.size) ∧ Aside0 (Blk w' gn .i64 30 (DF (nb s) (nb t) m)) ∧ Aside0 (Below w.heap.size w w'))
    case atStart => exact ⟨0, 0, rfl, ⟨rfl, by omega⟩, ⟨by rw [← DF_zero]; exact K5.out⟩, B6⟩
    case round =>
      clear K5 B6
      obtain ⟨L, m, rfl, HM, K, B⟩ := hrel
      cases gk with
      | zero =>
        have t1 : decide (L < (s.size : Int)) = false := decide_eq_false (by have := HM.out; omega)
        have K6 := Aside0.mk (show Blk wr gn .i64 30 (List.replicate 256 0) by
          have h := K.out
          rw [show m = (nb s).length from by rw [nb_length]; have := HM.out; omega, DF_end HP.out] at h
          exact h)
        have HEQ := fun w' : World => eq256 w'
        obtain ⟨Z, hZ⟩ : ∃ Z : List Int, List.replicate 256 0 = Z := ⟨_, rfl⟩
        have hZl : Z.length = 256 := by rw [← hZ, List.length_replicate]
        rw [hZ] at K6 HEQ
        have HZL := Aside0.mk hZl
        clear K HP hZ hZl
        go_wp2_with (first
          | ((with_reducible refine gate_dst (N := 63) rfl ?_); refine gate_guard (by rfl) ?_; refine load_blk rfl 30 (.tmp 7) rfl gn rfl .i64 Z K6.out _ Try.underlying30 rfl (by rw [HZL.out]; kernel_rfl) ?_)
          | (go_at_call 5; (with_reducible refine (gladstonelaw48_awake.calls 40 true _ awake_true).mono ?_); rintro e w4 ⟨rfl, hB⟩; have B4 := Aside0.mk (below_step B.out hB); clear hB))
        go_ret
        exact ⟨rfl, B4.out⟩
      | succ q =>
        have t1 : decide (L < (s.size : Int)) = true := decide_eq_true (by have := HM.out; omega)
        have p1 : (0 ≤ L) = True := eq_true (by have := HM.out; omega)
        have q1 : (L < (s.size : Int)) = True := eq_true (by have := HM.out; omega)
        have q2 : (L < (t.size : Int)) = True := eq_true (by have := HM.out; have := HT.out; omega)
        have hx := bt_at s L
        have hb : bt s L = (((nb s).getD m 0 : Nat) : Int) := by rw [HM.out.1, bt_nb]
        have hat := at_of (s := s) (i := m) (by have := HM.out; omega)
        have hlt := nb_lt s _ (List.mem_of_getElem? hat)
        generalize (nb s).getD m 0 = x at hb hat hlt
        have p3 : (0 ≤ bt s L) = True := eq_true (by rw [hb]; omega)
        have q3 : (bt s L < 256) = True := eq_true (by rw [hb]; omega)
        have eN : (bt s L).toNat = x := by rw [hb]; rfl
        have k1 := K.out.cell x (by unfold DF; rw [tabn_length]; exact hlt)
        have hv1 : (DF (nb s) (nb t) m).getD x 0 = (((nb s).take m).count x : Int) - (((nb t).take m).count x : Int) := by unfold DF; rw [tabn_getD hlt]
        rw [hv1] at k1
        have hst := DM_step (y := nb t) hat
        have b1 := List.count_le_length (a := x) (l := (nb s).take m)
        have b2 := List.count_le_length (a := x) (l := (nb t).take m)
        rw [List.length_take, nb_length] at b1 b2
        have hf := K.out.free (bt s L).toNat
        obtain ⟨V, hV⟩ : ∃ V : Int, (((nb s).take m).count x : Int) - (((nb t).take m).count x : Int) = V := ⟨_, rfl⟩
        rw [hV] at k1 hst
        rw [← eN] at k1
        have EV := Aside0.mk (show IntKind.i64.wrap (V + 1) = V + 1 by rw [i64_w, w64 (by have := HS.out; have := HT.out; omega) (by have := HS.out; have := HT.out; omega)])
        have HX := Aside0.mk (And.intro hst eN)
        clear hst eN b1 b2 hv1 hV hat hb hlt
        go_wp2
        go_still_tail 10, (by kernel_rfl)
        change wpList _ _ _ _ _ wr.drew
        rw [EV.out]
        go_wp2
        have K5 := Aside0.mk (show Blk (wr.setCell ⟨gn, (bt s L).toNat, none⟩ (.int .i64 (V + 1))).drew gn .i64 30 (DM (nb s) (nb t) m) by
          have h := K.out.put (bt s L).toNat (V + 1)
          rw [HX.out.2, HX.out.1] at h
          rw [HX.out.2]
          exact h.drew)
        have B5 := Aside0.mk (show Below w.heap.size w (wr.setCell ⟨gn, (bt s L).toNat, none⟩ (.int .i64 (V + 1))).drew from below_drew (below_set B.out G5'.out))
        clear K B EV HX k1 hf hx p3 q3
        generalize (wr.setCell ⟨gn, (bt s L).toNat, none⟩ (.int .i64 (V + 1))).drew = wr at K5 B5
        have hx := bt_at t L
        have hb : bt t L = (((nb t).getD m 0 : Nat) : Int) := by rw [HM.out.1, bt_nb]
        have hat := at_of (s := t) (i := m) (by have := HM.out; have := HT.out; omega)
        have hlt := nb_lt t _ (List.mem_of_getElem? hat)
        generalize (nb t).getD m 0 = y at hb hat hlt
        have p3 : (0 ≤ bt t L) = True := eq_true (by rw [hb]; omega)
        have q3 : (bt t L < 256) = True := eq_true (by rw [hb]; omega)
        have eN : (bt t L).toNat = y := by rw [hb]; rfl
        have k1 := K5.out.cell y (by unfold DM; rw [tabn_length]; exact hlt)
        have hv1 : (DM (nb s) (nb t) m).getD y 0 = (((nb s).take (m + 1)).count y : Int) - (((nb t).take m).count y : Int) := by unfold DM; rw [tabn_getD hlt]
        rw [hv1] at k1
        have hst := DF_step (x := nb s) hat
        have b1 := List.count_le_length (a := y) (l := (nb s).take (m + 1))
        have b2 := List.count_le_length (a := y) (l := (nb t).take m)
        rw [List.length_take, nb_length] at b1 b2
        have hf := K5.out.free (bt t L).toNat
        obtain ⟨U, hV⟩ : ∃ U : Int, (((nb s).take (m + 1)).count y : Int) - (((nb t).take m).count y : Int) = U := ⟨_, rfl⟩
        rw [hV] at k1 hst
        rw [← eN] at k1
        have EV := Aside0.mk (show IntKind.i64.wrap (U - 1) = U - 1 by rw [i64_w, w64 (by have := HS.out; have := HT.out; omega) (by have := HS.out; have := HT.out; omega)])
        have HX := Aside0.mk (And.intro hst eN)
        clear hst eN b1 b2 hv1 hV hat hb hlt
        go_still_tail 10, (by kernel_rfl)
        change wpList _ _ _ _ _ wr.drew
        rw [EV.out]
        go_wp2
        go_roundg q
        case measure => omega
        case rel =>
          refine ⟨wrap64 (L + 1), m + 1, rfl, ⟨?_, by have := HM.out; omega⟩, ⟨?_⟩, ⟨below_set (below_drew B5.out) G5'.out⟩⟩
          · have := HM.out; have := HS.out; rw [w64 (by omega) (by omega)]; omega
          · rw [HX.out.2, ← HX.out.1]
            exact K5.out.drew.put _ _
def gladstonelaw48_BwtBack.f (_ : Nat) (_ : ByteArray) : Option Bool := some true
theorem gladstonelaw48_BwtBack.calls (k : Nat) (a0 : ByteArray) (r : Bool) (w : World) (h : gladstonelaw48_BwtBack.f k a0 = some r) :
    Calls Try.prog 4 #[.string a0] w fun e w' => e = .returned (.bool r) ∧ Below w.heap.size w w' := by
  obtain rfl : true = r := Option.some.inj h
  exact BwtBack_walk a0 w
end Go.Proofs.Ytnafgifcidhdkaa.P
namespace Go.Proofs.Ytnafgifcidhdkaa.Pure
open Go.Proofs.Ytnafgifcidhdkaa.P
theorem BwtBack (a0 : ByteArray) {p0 : Prop} (_ : p0) : ∃ k, gladstonelaw48_BwtBack.f k a0 = some true := ⟨0, rfl⟩
end Go.Proofs.Ytnafgifcidhdkaa.Pure
