/- suffix: names, walked by hand. -/
import Derived.Test.YtdifgiceallpiaaDoorXHSa3
set_option linter.unusedVariables false
set_option linter.unusedSimpArgs false
set_option linter.unusedSectionVars false
section
namespace Go.Proofs.YtdifgiceallpiaaDoor.Sais
section
variable {n : Nat} {s : Nat → Nat} {ls : Nat → Bool}
def stN (n : Nat) (s : Nat → Nat) (ls : Nat → Bool) (Lg : List Nat) (j : Nat) : (Nat → Nat) × Nat × Option Nat := nmL (W n s ls) ((Lg.take j).filter (tn ls))
theorem stN_zero (Lg : List Nat) : stN n s ls Lg 0 = (fun _ => 0, 0, none) := by simp [stN, nmL]
theorem stN_no {Lg : List Nat} {j x : Nat} (hj : Lg[j]? = some x) (h : tn ls x = false) : stN n s ls Lg (j + 1) = stN n s ls Lg j := by
 unfold stN
 rw [List.take_add_one, hj, List.filter_append]
 simp [h]
theorem stN_yes {Lg : List Nat} {j x : Nat} (hj : Lg[j]? = some x) (h : tn ls x = true) : stN n s ls Lg (j + 1) = nmStep (W n s ls) (stN n s ls Lg j) x := by
 unfold stN
 rw [← nmL_snoc, List.take_add_one, hj, List.filter_append]
 simp [h]
theorem stN_end (hx : Txt n s ls) : stN n s ls (asL n s ls (T0 n ls)) n = nms n s ls := by
 unfold stN nms srt
 rw [List.take_of_length_le (by rw [(asL_perm hx (zbg n ls)).len]; exact Nat.le_refl _)]
theorem stN_ok (hx : Txt n s ls) (j : Nat) : NmOk (W n s ls) (((asL n s ls (T0 n ls)).take j).filter (tn ls)) (stN n s ls (asL n s ls (T0 n ls)) j) := by
 have hp := asL_perm hx (zbg n ls)
 have hr := asL_rel hx (zbg n ls) (rels_word hx (zbg n ls))
 refine nm_ok _ _ rfl ((hp.nd.sublist (List.take_sublist _ _)).filter _) ((hr.sublist (List.take_sublist _ _)).filter _)
theorem stN_many (hx : Txt n s ls) (j : Nat) : (stN n s ls (asL n s ls (T0 n ls)) j).2.1 ≤ n := by
 have hk := stN_ok hx j
 have hp := asL_perm hx (zbg n ls)
 cases hL : (((asL n s ls (T0 n ls)).take j).filter (tn ls)).getLast? with
 | none =>
  have := (hk.z (List.getLast?_eq_none_iff.1 hL)).1
  omega
 | some x =>
  have h1 := (hk.l x hL).2.2
  have h2 : (((asL n s ls (T0 n ls)).take j).filter (tn ls)).length ≤ n := by
   have a := List.length_filter_le (tn ls) ((asL n s ls (T0 n ls)).take j)
   have b := List.length_take_le j (asL n s ls (T0 n ls))
   have c := hp.len
   have d := List.length_take (i := j) (l := asL n s ls (T0 n ls))
   omega
  omega
theorem stN_last (hx : Txt n s ls) {j x y : Nat} (hj : (asL n s ls (T0 n ls))[j]? = some x) (hy : (stN n s ls (asL n s ls (T0 n ls)) j).2.2 = some y) : y < n ∧ y ≠ x := by
 have hk := stN_ok hx j
 have hp := asL_perm hx (zbg n ls)
 cases hL : (((asL n s ls (T0 n ls)).take j).filter (tn ls)).getLast? with
 | none =>
  have := (hk.z (List.getLast?_eq_none_iff.1 hL)).2
  rw [this] at hy
  cases hy
 | some z =>
  have h1 := (hk.l z hL).1
  rw [h1] at hy
  obtain rfl : z = y := Option.some.inj hy
  have hm := (List.mem_filter.1 (List.mem_of_getLast? hL)).1
  refine ⟨hp.lt z (List.mem_of_mem_take hm), ?_⟩
  rintro rfl
  obtain ⟨i, hi, e⟩ := List.mem_take_iff_getElem.1 hm
  have : (asL n s ls (T0 n ls))[i]? = (asL n s ls (T0 n ls))[j]? := by
   rw [hj, ← e]
   exact List.getElem?_eq_getElem (by omega)
  have := (List.getElem?_inj (by omega) hp.nd).1 this
  omega
def rowL (n : Nat) (s : Nat → Nat) (ls : Nat → Bool) : List Nat := (T0 n ls).map (nms n s ls).1
def rowT (n : Nat) (s : Nat → Nat) (ls : Nat → Bool) (i : Nat) : List Nat := ((List.range i).filter (tn ls)).map (nms n s ls).1
theorem rowT_end : rowT n s ls n = rowL n s ls := rfl
theorem rowT_len (i : Nat) : (rowT n s ls i).length ≤ i := by
 unfold rowT
 rw [List.length_map]
 have := List.length_filter_le (tn ls) (List.range i)
 rw [List.length_range] at this
 exact this
theorem rowT_no {i : Nat} (h : tn ls i = false) : rowT n s ls (i + 1) = rowT n s ls i := by
 unfold rowT
 rw [List.range_succ, List.filter_append]
 simp [h]
theorem rowT_yes {i : Nat} (h : tn ls i = true) : rowT n s ls (i + 1) = rowT n s ls i ++ [(nms n s ls).1 i] := by
 unfold rowT
 rw [List.range_succ, List.filter_append]
 simp [h]
def lastI : Option Nat → Int
 | none => -1
 | some a => (a : Int)
end
end Go.Proofs.YtdifgiceallpiaaDoor.Sais
namespace Go.Proofs.YtdifgiceallpiaaDoor.Hd
open Go Go.RowKit YtdifgiceallpiaaDoorW.PrintWords YtdifgiceallpiaaDoorW.PrintLast YtdifgiceallpiaaDoorW.PrintMore YtdifgiceallpiaaDoor.Hw YtdifgiceallpiaaDoor.Com YtdifgiceallpiaaDoor.Cn YtdifgiceallpiaaDoor.P YtdifgiceallpiaaDoor.Sais
attribute [local go_sem] za9 za8 zbi zbj za0 za1 zba zbb
section
variable (gx : Nat) (A : Option Addr) (c0 gl gz n m : Nat) (s : Nat → Nat) (ls : Nat → Bool) (w : World)
theorem names_ok (AS : Option Addr) (cs : Nat) (h : Ind w gx A c0 gl gz n m s ls) (hx : Txt n s ls) (hC : Kd.C (Kd.int .i64) w AS n (iN (asL n s ls (T0 n ls)))) :
  Calls Tryd.prog 81 #[.pointer (some ⟨gx, 0, none⟩), .slice AS n cs] w fun e w' => ∃ v : Value, e = .returned (.tuple #[v, .int .i64 (((nms n s ls).2.1 + 1 : Nat) : Int)]) ∧ Kd.R (Kd.int .i64) 3 w' w.heap.size (fun _ => True) v (iN (rowL n s ls)) ∧ Below w.heap.size w w' := by
 have hp := asL_perm hx (zbg n ls)
 obtain ⟨Lg, hLg⟩ : ∃ Lg, asL n s ls (T0 n ls) = Lg := ⟨_, rfl⟩
 have hE := stN_end hx
 have hMany := stN_many hx
 have hLast := fun j x y => stN_last hx (j := j) (x := x) (y := y)
 rw [hLg] at hp hC hE hMany hLast
 have hn2 := hx.n2
 obtain ⟨adS, hadS, _⟩ := Kd.at_int hC 0 (by omega) (by omega)
 subst hadS
 have HCS := zaa.mk (show ∀ (i x : Nat), Lg[i]? = some x → w.cell? (adS.add i) = some (.int .i64 (x : Int)) from fun i x hi => by
  have hil := (List.getElem?_eq_some_iff.1 hi).1
  obtain ⟨ad2, h1, h2⟩ := Kd.at_int hC (i : Int) (by omega) (by have := hp.len; omega)
  cases h1
  rw [Int.toNat_natCast, rd_nat, iN_getD, List.getD_eq_getElem?_getD, hi] at h2
  exact h2)
 have H := zaa.mk h
 have HX := zaa.mk hx
 have HP := zaa.mk hp
 have HE := zaa.mk hE
 have HMany := zaa.mk hMany
 have HLast := zaa.mk hLast
 have HN := zaa.mk (And.intro hn2 h.n1)
 have k0 := h.k0
 clear h hx hp hE hMany hLast hC hn2 hLg
 go_enter Tryd.func81, Tryd.ntmps81
 go_wp2_with (first
  | ((with_reducible refine zay (N := 18) rfl ?_); refine zce rfl rfl n rfl rfl Tryd.underlying29 .i64 info3 (by decide) (by have := HN.out; omega) ?_; intro g w2 G2 B2 C2))
 have B2' := zaa.mk (show Blk w2 g .i64 3 (tabn n (fun x => (((stN n s ls Lg 0).1 x : Nat) : Int))) from by have := B2.out; rw [zb8] at this; rw [stN_zero]; exact this)
 clear B2 k0
 go_loopg [7, 8, 21] n (fun q v7 v8 v21 w' => ∃ (L M la : Int) (j : Nat), v7 = .int .i64 M ∧ v8 = .int .i64 la ∧ v21 = .int .i64 L ∧ zaa (L = (j : Int) ∧ j + q = n ∧ M = (((stN n s ls Lg j).2.1 : Nat) : Int) ∧ la = lastI (stN n s ls Lg j).2.2) ∧ zaa (Blk w' g .i64 3 (tabn n (fun x => (((stN n s ls Lg j).1 x : Nat) : Int)))) ∧ zaa (Below w.heap.size w w'))
 case atStart => exact ⟨0, 0, -1, 0, rfl, rfl, rfl, ⟨rfl, by omega, by rw [stN_zero]; rfl, by rw [stN_zero]; rfl⟩, B2', C2⟩
 case round =>
  clear B2' C2
  obtain ⟨L, M, la, j, rfl, rfl, rfl, HL, B, C⟩ := hrel
  cases gk with
  | succ q =>
   obtain rfl : L = (j : Int) := HL.out.1
   have hjn : j < n := by have := HL.out; omega
   have t1 : decide ((j : Int) < (n : Int)) = true := decide_eq_true (by omega)
   have p1 : ((j : Int) < (n : Int)) = True := eq_true (by omega)
   have p2 : (j < n) = True := eq_true hjn
   obtain ⟨x, hxj⟩ : ∃ x, Lg[j]? = some x := ⟨_, List.getElem?_eq_getElem (by rw [HP.out.len]; exact hjn)⟩
   have hxn := HP.out.lt x (List.mem_of_getElem? hxj)
   have hc := HCS.out j x hxj
   have k2 := (C.out.cell (World.block_lt_of_cell? w _ hc)).trans hc
   have p3 : ((x : Int) < (n : Int)) = True := eq_true (by omega)
   have p4 : (x < n) = True := eq_true hxn
   have e1 : wrap64 ((j : Int) + 1) = ((j + 1 : Nat) : Int) := by have := HN.out; rw [w64 (by omega) (by omega)]; omega
   have IH := zaa.mk (H.out.below C.out)
   have HXJ := zaa.mk (And.intro hxj hxn)
   clear hc hxj hxn hjn
   cases ht : tn ls x with
   | false =>
    have HT := zaa.mk ht
    clear ht
    go_wp2_with (first
     | (go_at_call 80; refine (zch gx A c0 gl gz n m s ls _ x IH.out HXJ.out.2).mono ?_; rintro e w3 ⟨rfl, hB⟩; rw [HT.out]; have B3 := zaa.mk (B.out.below hB); have C3 := zaa.mk (zaf C.out hB); clear hB))
    go_roundg q
    case measure => omega
    case rel =>
     have e := stN_no (n := n) (s := s) HXJ.out.1 HT.out
     exact ⟨((j + 1 : Nat) : Int), M, la, j + 1, rfl, rfl, by simp only [e1], ⟨rfl, by have := HL.out; omega, by rw [e]; exact HL.out.2.2.1, by rw [e]; exact HL.out.2.2.2⟩, ⟨by rw [e]; exact B3.out⟩, C3⟩
   | true =>
    have HT := zaa.mk ht
    have hst := stN_yes (n := n) (s := s) HXJ.out.1 ht
    have HMj := HMany.out j
    obtain ⟨st, hst2⟩ : ∃ st, stN n s ls Lg j = st := ⟨_, rfl⟩
    have HLs := HLast.out j x
    rw [hst2] at hst HL B HMj HLs
    obtain ⟨nmF, many, lst⟩ := st
    have HS := zaa.mk hst
    clear ht hst hst2
    cases lst with
    | none =>
     obtain rfl : la = -1 := HL.out.2.2.2
     obtain rfl : M = (many : Int) := HL.out.2.2.1
     clear HMj HLs
     have hf : ∀ w', Blk w' g .i64 3 (tabn n (fun x => ((nmF x : Nat) : Int))) → Blk (w'.setCell ⟨g, x, none⟩ (.int .i64 (many : Int))) g .i64 3 (tabn n (fun y => (((stN n s ls Lg (j + 1)).1 y : Nat) : Int))) := by
      intro w' hb
      refine zb7 hb (fun y hy => ?_)
      rw [HS.out]
      show _ = ((upd nmF x many y : Nat) : Int)
      unfold upd
      split <;> rfl
     have HF := zaa.mk hf
     clear hf
     go_wp2_with (first
      | (go_at_call 80; refine (zch gx A c0 gl gz n m s ls _ x IH.out HXJ.out.2).mono ?_; rintro e w3 ⟨rfl, hB⟩; rw [HT.out]; have B3 := zaa.mk (B.out.below hB); have C3 := zaa.mk (zaf C.out hB); have kf := B3.out.free x; have kg := B3.out.cell x (by rw [za2]; exact HXJ.out.2); clear hB))
     go_roundg q
     case measure => omega
     case rel =>
      exact ⟨((j + 1 : Nat) : Int), (many : Int), (x : Int), j + 1, rfl, rfl, by simp only [e1], ⟨rfl, by have := HL.out; omega, by rw [HS.out]; rfl, by rw [HS.out]; rfl⟩, ⟨HF.out _ B3.out⟩, ⟨zat C3.out G2.out⟩⟩
    | some y =>
     obtain rfl : la = (y : Int) := HL.out.2.2.2
     obtain rfl : M = (many : Int) := HL.out.2.2.1
     have hy := HLs y HXJ.out.1 rfl
     have t3 : ((y : Int) != -1) = true := bne_iff_ne.2 (by omega)
     have HY := zaa.mk hy
     have HM2 := zaa.mk HMj
     clear HMj HLs hy
     obtain ⟨mx, hmx⟩ : ∃ mx, (if W n s ls y = W n s ls x then many else many + 1) = mx := ⟨_, rfl⟩
     have HMX := zaa.mk hmx
     have hs2 : stN n s ls Lg (j + 1) = (upd nmF x mx, mx, some x) := by rw [HS.out, ← hmx]; rfl
     have HS2 := zaa.mk hs2
     have hf : ∀ w', Blk w' g .i64 3 (tabn n (fun x => ((nmF x : Nat) : Int))) → Blk (w'.setCell ⟨g, x, none⟩ (.int .i64 (mx : Int))) g .i64 3 (tabn n (fun y => (((stN n s ls Lg (j + 1)).1 y : Nat) : Int))) := by
      intro w' hb
      refine zb7 hb (fun y hy => ?_)
      rw [HS2.out]
      show _ = ((upd nmF x mx y : Nat) : Int)
      unfold upd
      split <;> rfl
     have HF := zaa.mk hf
     clear hf hs2
     by_cases hw : W n s ls y = W n s ls x
     ·have hd : decide (W n s ls y = W n s ls x) = true := decide_eq_true hw
      obtain rfl : many = mx := by rw [← hmx, if_pos hw]
      have HD := zaa.mk hd
      clear hd hw hmx
      go_wp2_with (first
       | (go_at_call 80; refine (zch gx A c0 gl gz n m s ls _ x IH.out HXJ.out.2).mono ?_; rintro e w3 ⟨rfl, hB⟩; rw [HT.out]; have B3 := zaa.mk (B.out.below hB); have C3 := zaa.mk (zaf C.out hB); have I3 := zaa.mk (H.out.below C3.out); clear hB IH B C)
       | (go_at_call 83; refine (same_ok gx A c0 gl gz n m s ls _ y x I3.out HX.out HY.out.1 HXJ.out.2 HY.out.2).mono ?_; rintro e w4 ⟨rfl, hB⟩; rw [HD.out]; have B4 := zaa.mk (B3.out.below hB); have C4 := zaa.mk (zaf C3.out hB); have kf := B4.out.free x; have kg := B4.out.cell x (by rw [za2]; exact HXJ.out.2); clear hB B3 C3))
      go_roundg q
      case measure => omega
      case rel =>
       exact ⟨((j + 1 : Nat) : Int), (many : Int), (x : Int), j + 1, rfl, rfl, by simp only [e1], ⟨rfl, by have := HL.out; omega, by rw [HS2.out], by rw [HS2.out]; rfl⟩, ⟨HF.out _ B4.out⟩, ⟨zat C4.out G2.out⟩⟩
     ·have hd : decide (W n s ls y = W n s ls x) = false := decide_eq_false hw
      obtain rfl : many + 1 = mx := by rw [← hmx, if_neg hw]
      have HD := zaa.mk hd
      have e2 : wrap64 ((many : Int) + 1) = ((many + 1 : Nat) : Int) := by have := HN.out; have h2 : many ≤ n := HM2.out; rw [w64 (by omega) (by omega)]; omega
      clear hd hw hmx
      go_wp2_with (first
       | (go_at_call 80; refine (zch gx A c0 gl gz n m s ls _ x IH.out HXJ.out.2).mono ?_; rintro e w3 ⟨rfl, hB⟩; rw [HT.out]; have B3 := zaa.mk (B.out.below hB); have C3 := zaa.mk (zaf C.out hB); have I3 := zaa.mk (H.out.below C3.out); clear hB IH B C)
       | (go_at_call 83; refine (same_ok gx A c0 gl gz n m s ls _ y x I3.out HX.out HY.out.1 HXJ.out.2 HY.out.2).mono ?_; rintro e w4 ⟨rfl, hB⟩; rw [HD.out]; have B4 := zaa.mk (B3.out.below hB); have C4 := zaa.mk (zaf C3.out hB); have kf := B4.out.free x; have kg := B4.out.cell x (by rw [za2]; exact HXJ.out.2); clear hB B3 C3))
      go_roundg q
      case measure => omega
      case rel =>
       rw [e2]
       exact ⟨((j + 1 : Nat) : Int), ((many + 1 : Nat) : Int), (x : Int), j + 1, rfl, rfl, by simp only [e1], ⟨rfl, by have := HL.out; omega, by rw [HS2.out], by rw [HS2.out]; rfl⟩, ⟨HF.out _ B4.out⟩, ⟨zat C4.out G2.out⟩⟩
  | zero =>
   have t1 : decide (L < (n : Int)) = false := decide_eq_false (by have := HL.out; omega)
   have ej : j = n := by have := HL.out; omega
   have hM := HL.out.2.2.1
   rw [ej, HE.out] at hM B
   subst hM
   have k0 := (H.out.below C.out).k0
   have EM := zaa.mk (show wrap64 ((((nms n s ls).2.1 : Nat) : Int) + 1) = (((nms n s ls).2.1 + 1 : Nat) : Int) from by
    have h1 := HMany.out n
    rw [HE.out] at h1
    have := HN.out
    rw [w64 (by omega) (by omega)]; omega)
   clear HL ej
   go_wp2
   have R0 := zaa.mk (show Kd.R (Kd.int .i64) 3 wr w.heap.size (fun k => k ≠ g) (.slice none 0 0) (iN (rowT n s ls 0)) from Kd.R_nil _ _ _ _ _)
   go_loopg [11, 51] n (fun q v11 v51 w' => ∃ (L : Int) (i : Nat) (A2 : Option Addr) (c2 : Nat), v11 = .slice A2 (iN (rowT n s ls i)).length c2 ∧ v51 = .int .i64 L ∧ zaa (L = (i : Int) ∧ i + q = n) ∧ zaa (Blk w' g .i64 3 (tabn n (fun x => (((nms n s ls).1 x : Nat) : Int)))) ∧ zaa (Kd.R (Kd.int .i64) 3 w' w.heap.size (fun k => k ≠ g) (.slice A2 (iN (rowT n s ls i)).length c2) (iN (rowT n s ls i))) ∧ zaa (Below w.heap.size w w'))
   case atStart => exact ⟨0, 0, none, 0, rfl, rfl, ⟨rfl, by omega⟩, B, R0, C⟩
   case round =>
    clear R0 B C k0 t1
    obtain ⟨L, i, A2, c2, rfl, rfl, HL, B, R, C⟩ := hrel
    cases gk with
    | zero =>
     have t1 : decide (L < (n : Int)) = false := decide_eq_false (by have := HL.out; omega)
     have ei : i = n := by have := HL.out; omega
     rw [ei, rowT_end] at R
     rw [ei]
     clear HL ei
     go_wp2
     go_ret2
     rw [EM.out]
     exact ⟨_, rfl, Kd.R_mono R.out (fun _ _ => trivial), C.out⟩
    | succ q =>
     obtain rfl : L = (i : Int) := HL.out.1
     have hin : i < n := by have := HL.out; omega
     have t1 : decide ((i : Int) < (n : Int)) = true := decide_eq_true (by omega)
     have p1 : ((i : Int) < (n : Int)) = True := eq_true (by omega)
     have p2 : (i < n) = True := eq_true hin
     have e1 : wrap64 ((i : Int) + 1) = ((i + 1 : Nat) : Int) := by have := HN.out; rw [w64 (by omega) (by omega)]; omega
     have IH := zaa.mk (H.out.below C.out)
     have HIN := zaa.mk hin
     clear hin
     cases ht : tn ls i with
     | false =>
      have HT := zaa.mk ht
      clear ht
      go_wp2_with (first
       | (go_at_call 80; refine (zch gx A c0 gl gz n m s ls _ i IH.out HIN.out).mono ?_; rintro e w3 ⟨rfl, hB⟩; rw [HT.out]; have B3 := zaa.mk (B.out.below hB); have R3 := zaa.mk (Kd.R_below R.out hB); have C3 := zaa.mk (zaf C.out hB); clear hB))
      go_roundg q
      case measure => omega
      case rel =>
       have e := rowT_no (n := n) (s := s) HT.out
       refine ⟨((i + 1 : Nat) : Int), i + 1, A2, c2, by rw [e], by simp only [e1], ⟨rfl, by have := HL.out; omega⟩, B3, ⟨by rw [e]; exact R3.out⟩, C3⟩
     | true =>
      have HT := zaa.mk ht
      clear ht
      obtain ⟨xs, hxs⟩ : ∃ xs, iN (rowT n s ls i) = xs := ⟨_, rfl⟩
      have hxl : xs.length ≤ n := by rw [← hxs, zb1]; exact Nat.le_trans (rowT_len i) (Nat.le_of_lt HIN.out)
      obtain ⟨y, hy⟩ : ∃ y : Nat, (nms n s ls).1 i = y := ⟨_, rfl⟩
      have HXS := zaa.mk (show iN (rowT n s ls (i + 1)) = xs ++ [(y : Int)] from by rw [rowT_yes HT.out, ← hxs, ← hy]; simp [iN])
      have HXL := zaa.mk (show (xs.length + 1) * 8 ≤ 140737488355328 by have := HN.out; omega)
      have HY := zaa.mk hy
      rw [hxs] at R
      rw [hxs]
      clear hxs hxl hy
      go_wp2_with (first
       | (go_at_call 80; refine (zch gx A c0 gl gz n m s ls _ i IH.out HIN.out).mono ?_; rintro e w3 ⟨rfl, hB⟩; rw [HT.out]; have B3 := zaa.mk (B.out.below hB); have R3 := zaa.mk (Kd.R_below R.out hB); have C3 := zaa.mk (zaf C.out hB); have kg : w3.cell? ⟨g, i, none⟩ = some (.int .i64 (y : Int)) := (by have h := B3.out.cell i (by rw [za2]; exact HIN.out); rw [zbr HIN.out, HY.out] at h; exact h); clear hB)
       | ((with_reducible refine zaw (b := .append) (xs := #[.tmp 57, .tmp 62]) rfl ?_); at_builtin; refine Kd.R_append (Kd.int .i64) (w0 := w) w.heap.size rfl (.tmp 57) (.tmp 62) 29 3 (.int .i64 0) 8 rfl Tryd.underlying29 info3 rfl (by decide) (by decide) (.slice A2 xs.length c2) xs (y : Int) [.int .i64 (y : Int)] (fun k => k ≠ g) (fun _ => False) rfl (by first | (go_simp; done) | (go_simp; rfl)) ?aP (fun _ hk => hk.elim) ?aF ?aO ?aB ?aS ?aL ?_; (case aP => exact rfl); (case aF => exact (fun k hk => by have l1 := B3.out.lt; omega)); (case aO => exact R3.out); (case aB => exact C3.out); (case aS => exact C3.out.size); (case aL => exact HXL.out); intro v1 w5 ho5 hb5 hg5 ha5; obtain ⟨A3, c3, e3⟩ := Kd.R_slice ho5; subst e3; have B5 := zaa.mk (B3.out.grown hg5 (fun e => (R3.out.1 g e.symm) rfl)); have O5 := zaa.mk ho5; have C5 := zaa.mk hb5; clear ho5 hb5 hg5 ha5))
      go_roundg q
      case measure => omega
      case rel =>
       exact ⟨((i + 1 : Nat) : Int), i + 1, A3, c3, by rw [HXS.out, List.length_append, List.length_singleton], by simp only [e1], ⟨rfl, by have := HL.out; omega⟩, B5, ⟨by rw [HXS.out]; exact O5.out⟩, C5⟩
end
end Go.Proofs.YtdifgiceallpiaaDoor.Hd
end
section
namespace Go.Proofs.YtdifgiceallpiaaDoor.Sais
section
variable {n : Nat} {s : Nat → Nat} {ls : Nat → Bool} {T : List Nat}
theorem T0_small (n : Nat) (ls : Nat → Bool) (hn : 1 ≤ n) : (T0 n ls).length < n := by
 have h1 : (T0 n ls) ⊆ (List.range n).erase 0 := by
  intro x hx
  have := ((zbg n ls).mem x).1 hx
  exact (List.mem_erase_of_ne (by have := (tn_iff.1 this.2).1; omega)).2 (List.mem_range.2 this.1)
 have := List.Nodup.length_le_of_subset (zbg n ls).nd h1
 rw [List.length_erase_of_mem (List.mem_range.2 (by omega)), List.length_range] at this
 omega
def fO (n : Nat) (s : Nat → Nat) (ls : Nat → Bool) (i b : Nat) : Nat := if ((List.range i).any (fun a => row n s ls a == b)) = true then (srt n s ls).getD b 0 else 0
theorem fO_zero (b : Nat) : fO n s ls 0 b = 0 := by simp [fO]
theorem fO_succ (i b : Nat) : fO n s ls (i + 1) b = if b = row n s ls i then (srt n s ls).getD b 0 else fO n s ls i b := by
 unfold fO
 rw [List.range_succ, List.any_append]
 by_cases h : b = row n s ls i
 ·subst h; simp
 ·rw [if_neg h]
  have : ([i].any (fun a => row n s ls a == b)) = false := by
   simp; exact fun e => h e.symm
  rw [this, Bool.or_false]
theorem fO_end (hx : Txt n s ls) (he : (nms n s ls).2.1 + 1 = (T0 n ls).length) {b : Nat} (hb : b < (T0 n ls).length) : fO n s ls (T0 n ls).length b = (srt n s ls).getD b 0 := by
 obtain ⟨_, _, h3⟩ := ord_one hx he
 obtain ⟨r1, r2, r3, r4⟩ := row_ok hx
 obtain ⟨a, ha, e⟩ := range_all (n := (T0 n ls).length) (f := row n s ls) (fun a ha => by have := r3 a ha; omega) (fun a a' ha ha' e => by
  have h4 := h3 a ha
  have h5 := h3 a' ha'
  rw [e, h5] at h4
  have h6 := Option.some.inj h4
  rw [zcg ha, zcg ha'] at h6
  refine (List.getElem?_inj ha (zbg n ls).nd).1 ?_
  rw [List.getElem?_eq_getElem ha, List.getElem?_eq_getElem ha', h6]) b hb
 unfold fO
 rw [if_pos]
 simp only [List.any_eq_true, List.mem_range, beq_iff_eq]
 exact ⟨a, ha, e⟩
end
end Go.Proofs.YtdifgiceallpiaaDoor.Sais
namespace Go.Proofs.YtdifgiceallpiaaDoor.Hd
open Go Go.RowKit YtdifgiceallpiaaDoorW.PrintWords YtdifgiceallpiaaDoorW.PrintLast YtdifgiceallpiaaDoorW.PrintMore YtdifgiceallpiaaDoor.Hw YtdifgiceallpiaaDoor.Com YtdifgiceallpiaaDoor.Cn YtdifgiceallpiaaDoor.P YtdifgiceallpiaaDoor.Sais
attribute [local go_sem] za9 za8 zbi zbj za0 za1 zba zbb
theorem iN_tab (l : List Nat) : iN l = tabn l.length (fun i => ((l.getD i 0 : Nat) : Int)) := by
 rw [tabn_of (iN l), zb1]
 exact zbd (fun j _ => iN_getD l j)
theorem as_tab {n : Nat} {s : Nat → Nat} {ls : Nat → Bool} {T : List Nat} (hx : Txt n s ls) (hT : Turns n ls T) : tabn n (AS n s ls T) = iN (asL n s ls T) := by
 obtain ⟨_, h2, _, _⟩ := AS_ok hx hT
 unfold iN asL tabn
 rw [List.map_map]
 refine List.map_congr_left (fun j hj => ?_)
 obtain ⟨x, _, e⟩ := h2 j (List.mem_range.1 hj)
 simp [e]
theorem row_tab (n : Nat) (s : Nat → Nat) (ls : Nat → Bool) : iN (rowL n s ls) = tabn (T0 n ls).length (fun a => (row n s ls a : Int)) := by
 rw [iN_tab]
 unfold rowL
 rw [List.length_map]
 refine zbd (fun j hj => ?_)
 rw [List.getD_eq_getElem?_getD, List.getElem?_map, List.getElem?_eq_getElem hj]
 unfold row
 rw [zcg hj]; rfl
theorem map_getD (f : Nat → Nat) (l : List Nat) (i : Nat) (h : i < l.length) : (l.map f).getD i 0 = f (l.getD i 0) := by
 rw [List.getD_eq_getElem?_getD, List.getElem?_map, List.getD_eq_getElem?_getD, List.getElem?_eq_getElem h]; rfl
theorem blk_C {W : World} {g : Nat} {l : List Int} (h : Blk W g .i64 3 l) (hl : l.length ≤ 1099511627776) : Kd.C (Kd.int .i64) W (some ⟨g, 0, none⟩) l.length l :=
 (Kd.R_reads' (h.R (Nat.zero_le g) (by simp [maxLen]; omega) (fun _ => True) trivial)).2.2
theorem c_cell {W : World} {A : Option Addr} {l : List Nat} {k : Nat} (h : Kd.C (Kd.int .i64) W A k (iN l)) {i : Nat} (hi : i < l.length) (hk : k = l.length) : ∃ ad : Addr, A = some ad ∧ W.cell? (ad.add i) = some (.int .i64 ((l.getD i 0 : Nat) : Int)) := by
 obtain ⟨ad2, h1, h2⟩ := Kd.at_int h (i : Int) (by omega) (by omega)
 rw [Int.toNat_natCast, rd_nat, iN_getD] at h2
 exact ⟨ad2, h1, h2⟩
structure Num (n m : Nat) (s : Nat → Nat) : Prop where
 n1 : 1 ≤ n
 last : s (n - 1) = 0
 pos : ∀ i, i + 1 < n → 0 < s i
 sm : ∀ i, i < n → s i < m
 nb : n ≤ 1099511627776
 mb : m ≤ 1099511627776
def IndOk (n : Nat) : Prop := ∀ (m : Nat) (s : Nat → Nat) (A : Option Addr) (c0 : Nat) (w : World), Num n m s → Kd.C (Kd.int .i64) w A n (tabn n (fun i => (s i : Int))) →
 Calls Tryd.prog 67 #[.slice A n c0, .int .i64 (m : Int)] w fun e w' => ∃ (g c : Nat) (sa : List Nat), e = .returned (.slice (some ⟨g, 0, none⟩) n c) ∧ c = n ∧ w.heap.size ≤ g ∧ Blk w' g .i64 3 (iN sa) ∧ IsSA n s sa ∧ Below w.heap.size w w'
section
variable (gx : Nat) (A : Option Addr) (c0 gl gz n m : Nat) (s : Nat → Nat) (ls : Nat → Bool) (w : World)
theorem induce_at (AT : Option Addr) (ct k : Nat) (T : List Nat) (hk : T.length = k) (h : Ind w gx A c0 gl gz n m s ls) (hx : Txt n s ls) (hsm : ∀ i, i < n → s i < m) (hTC : Kd.C (Kd.int .i64) w AT k (iN T)) (hT : Turns n ls T) :
  Calls Tryd.prog 82 #[.pointer (some ⟨gx, 0, none⟩), .slice AT k ct] w fun e w' => ∃ g : Nat, e = .returned (.slice (some ⟨g, 0, none⟩) n n) ∧ w.heap.size ≤ g ∧ Blk w' g .i64 3 (iN (asL n s ls T)) ∧ Below w.heap.size w w' := by
 subst hk
 rw [← as_tab hx hT]
 exact induce_ok gx A c0 gl gz n m s ls w AT ct T h hx hsm hTC hT
theorem names_at (g4 k : Nat) (h : Ind w gx A c0 gl gz n m s ls) (hx : Txt n s ls) (hK : Blk w g4 .i64 3 (iN (asL n s ls (T0 n ls)))) (hn : n ≤ 1099511627776) (hk : (nms n s ls).2.1 + 1 = k) :
  Calls Tryd.prog 81 #[.pointer (some ⟨gx, 0, none⟩), .slice (some ⟨g4, 0, none⟩) n n] w fun e w' => ∃ v : Value, e = .returned (.tuple #[v, .int .i64 ((k : Nat) : Int)]) ∧ Kd.R (Kd.int .i64) 3 w' w.heap.size (fun _ => True) v (iN (rowL n s ls)) ∧ Below w.heap.size w w' := by
 subst hk
 refine names_ok gx A c0 gl gz n m s ls w (some ⟨g4, 0, none⟩) n h hx ?_
 have h2 := blk_C hK (by rw [zb1, (asL_perm hx (zbg n ls)).len]; exact hn)
 rw [zb1, (asL_perm hx (zbg n ls)).len] at h2
 exact h2
end
theorem induced_ok : ∀ N n, n ≤ N → IndOk n := by
 intro N
 induction N with
 | zero => intro n hn m s A c0 w hN; have := hN.n1; omega
 | succ N ih =>
  intro n hn m s A c0 w hN hC
  by_cases h1 : n = 1
  ·subst h1
   clear hC hN
   go_enter Tryd.func67, Tryd.ntmps67
   go_wp2
   go_ret
   exact ⟨w.heap.size, 1, [0], rfl, rfl, Nat.le_refl _, zck w _, ⟨⟨rfl, by simp, by simp⟩, by simp⟩, zac (Below.refl _ _) _⟩
  have hx : Txt n s (less n s) := txt_of (by have := hN.n1; omega) hN.last hN.pos
  have hind := ih (T0 n (less n s)).length (by have := T0_small n (less n s) hN.n1; omega)
  have HX := zaa.mk hx
  have HN := zaa.mk hN
  have HC := zaa.mk hC
  have HIND := zaa.mk hind
  have t1 : ((n : Int) == 1) = false := beq_false_of_ne (by omega)
  have t2 : (n == 1) = false := beq_false_of_ne h1
  clear ih hx hind h1 hn hC hN
  go_enter Tryd.func67, Tryd.ntmps67
  go_wp2_with (first
   | (go_at_call 79; refine (fresh_ok A c0 n m s _ HC.out HN.out.n1 HN.out.nb HN.out.mb HN.out.sm).mono ?_; rintro e w2 ⟨gx, gl, gz, rfl, hI, hB⟩; have I2 := zaa.mk hI; have B2 := zaa.mk hB; clear hI hB))
  obtain ⟨ls, hls⟩ : ∃ ls, less n s = ls := ⟨_, rfl⟩
  rw [hls] at HX HIND I2
  have R0 := zaa.mk (show Kd.R (Kd.int .i64) 3 w2 w2.heap.size (fun _ => True) (.slice none 0 0) (iN ((List.range 0).filter (tn ls))) from Kd.R_nil _ _ _ _ _)
  clear t1 t2
  go_loopg [6, 24] n (fun q v6 v24 w' => ∃ (L : Int) (i : Nat) (A2 : Option Addr) (c2 : Nat), v6 = .slice A2 (iN ((List.range i).filter (tn ls))).length c2 ∧ v24 = .int .i64 L ∧ zaa (L = (i : Int) ∧ i + q = n) ∧ zaa (Kd.R (Kd.int .i64) 3 w' w2.heap.size (fun _ => True) (.slice A2 (iN ((List.range i).filter (tn ls))).length c2) (iN ((List.range i).filter (tn ls)))) ∧ zaa (Below w2.heap.size w2 w'))
  case atStart => exact ⟨0, 0, none, 0, rfl, rfl, ⟨rfl, by omega⟩, R0, ⟨Below.refl _ _⟩⟩
  case round =>
   clear R0
   obtain ⟨L, i, A2, c2, rfl, rfl, HL, R, C⟩ := hrel
   cases gk with
   | succ q =>
    obtain rfl : L = (i : Int) := HL.out.1
    have hin : i < n := by have := HL.out; omega
    have t1 : decide ((i : Int) < (n : Int)) = true := decide_eq_true (by omega)
    have p1 : ((i : Int) < (n : Int)) = True := eq_true (by omega)
    have p2 : (i < n) = True := eq_true hin
    have e1 : wrap64 ((i : Int) + 1) = ((i + 1 : Nat) : Int) := by have := HN.out.nb; rw [w64 (by omega) (by omega)]; omega
    have IH := zaa.mk (I2.out.below C.out)
    have HIN := zaa.mk hin
    clear hin
    cases ht : tn ls i with
    | false =>
     have HT := zaa.mk ht
     clear ht
     go_wp2_with (first
      | (go_at_call 80; refine (zch gx A c0 gl gz n m s ls _ i IH.out HIN.out).mono ?_; rintro e w3 ⟨rfl, hB⟩; rw [HT.out]; have R3 := zaa.mk (Kd.R_below R.out hB); have C3 := zaa.mk (zaf C.out hB); clear hB))
     go_roundg q
     case measure => omega
     case rel =>
      have e : (List.range (i + 1)).filter (tn ls) = (List.range i).filter (tn ls) := by rw [List.range_succ, List.filter_append]; simp [HT.out]
      exact ⟨((i + 1 : Nat) : Int), i + 1, A2, c2, by rw [e], by simp only [e1], ⟨rfl, by have := HL.out; omega⟩, ⟨by rw [e]; exact R3.out⟩, C3⟩
    | true =>
     have HT := zaa.mk ht
     clear ht
     obtain ⟨xs, hxs⟩ : ∃ xs, iN ((List.range i).filter (tn ls)) = xs := ⟨_, rfl⟩
     have hxl : xs.length ≤ i := by
      rw [← hxs, zb1]
      have := List.length_filter_le (tn ls) (List.range i)
      rw [List.length_range] at this; exact this
     have HXS := zaa.mk (show iN ((List.range (i + 1)).filter (tn ls)) = xs ++ [(i : Int)] from by rw [List.range_succ, List.filter_append, ← hxs]; simp [iN, HT.out])
     have HXL := zaa.mk (show (xs.length + 1) * 8 ≤ 140737488355328 by have := HN.out.nb; have := HIN.out; omega)
     rw [hxs] at R
     rw [hxs]
     clear hxs hxl
     go_wp2_with (first
      | (go_at_call 80; refine (zch gx A c0 gl gz n m s ls _ i IH.out HIN.out).mono ?_; rintro e w3 ⟨rfl, hB⟩; rw [HT.out]; have R3 := zaa.mk (Kd.R_below R.out hB); have C3 := zaa.mk (zaf C.out hB); clear hB)
      | ((with_reducible refine zaw (b := .append) (xs := #[.tmp 30, .tmp 32]) rfl ?_); at_builtin; refine Kd.R_append (Kd.int .i64) (w0 := w2) w2.heap.size rfl (.tmp 30) (.tmp 32) 29 3 (.int .i64 0) 8 rfl Tryd.underlying29 info3 rfl (by decide) (by decide) (.slice A2 xs.length c2) xs (i : Int) [.int .i64 (i : Int)] (fun _ => True) (fun _ => False) rfl (by first | (go_simp; done) | (go_simp; rfl)) ?aP (fun _ hk => hk.elim) ?aF ?aO ?aB ?aS ?aL ?_; (case aP => exact rfl); (case aF => exact (fun _ _ => trivial)); (case aO => exact R3.out); (case aB => exact C3.out); (case aS => exact C3.out.size); (case aL => exact HXL.out); intro v1 w5 ho5 hb5 hg5 ha5; obtain ⟨A3, c3, e3⟩ := Kd.R_slice ho5; subst e3; have O5 := zaa.mk ho5; have C5 := zaa.mk hb5; clear ho5 hb5 hg5 ha5))
     go_roundg q
     case measure => omega
     case rel =>
      exact ⟨((i + 1 : Nat) : Int), i + 1, A3, c3, by rw [HXS.out, List.length_append, List.length_singleton], by simp only [e1], ⟨rfl, by have := HL.out; omega⟩, ⟨by rw [HXS.out]; exact O5.out⟩, C5⟩
   | zero =>
    have t1 : decide (L < (n : Int)) = false := decide_eq_false (by have := HL.out; omega)
    have ei : i = n := by have := HL.out; omega
    obtain ⟨m0, hm0⟩ : ∃ m0, (T0 n ls).length = m0 := ⟨_, rfl⟩
    have HM0 := zaa.mk hm0
    have I3 := zaa.mk (I2.out.below C.out)
    have CT := zaa.mk (show Kd.C (Kd.int .i64) wr A2 m0 (iN (T0 n ls)) from by
     have h := (Kd.R_reads' R.out).2.2
     rw [ei] at h
     have : (iN ((List.range n).filter (tn ls))).length = m0 := by rw [zb1, ← hm0]; rfl
     rw [this] at h
     exact h)
    have el : (iN ((List.range i).filter (tn ls))).length = m0 := by rw [ei, zb1, ← hm0]; rfl
    rw [el]
    have C4 := zaa.mk (zaf B2.out C.out)
    clear HL ei el R C hm0
    have hlen0 := (row_ok HX.out).2.2.2
    obtain ⟨nms1, hnms1⟩ : ∃ k, (nms n s ls).2.1 + 1 = k := ⟨_, rfl⟩
    have HNM := zaa.mk (show nms1 ≤ m0 ∧ m0 < n from by have h1 := HM0.out; have h2 := T0_small n ls HN.out.n1; omega)
    have HN1 := zaa.mk hnms1
    clear hlen0
    have hrl : (iN (rowL n s ls)).length = m0 := by rw [zb1]; unfold rowL; rw [List.length_map]; exact HM0.out
    have HRL := zaa.mk hrl
    clear hrl
    have AR := zaa.mk (show ∀ (w5 : World) (A5 : Option Addr) (c5 : Nat), Kd.C (Kd.int .i64) w5 A5 m0 (iN (rowL n s ls)) → ∀ i, i < m0 → ∃ ad : Addr, A5 = some ad ∧ w5.cell? (ad.add i) = some (.int .i64 (row n s ls i : Int)) from fun w5 A5 c5 hC i hi => by
     rw [row_tab] at hC
     obtain ⟨ad2, h1, h2⟩ := Kd.at_int hC (i : Int) (by omega) (by omega)
     rw [Int.toNat_natCast, rd_nat, zbr (by rw [HM0.out]; exact hi)] at h2
     exact ⟨ad2, h1, h2⟩)
    have hpos0 : 0 < m0 := by have := (T0_last HX.out).1; rw [HM0.out] at this; exact this
    have HPOS := zaa.mk hpos0
    have hret : ∀ (T : List Nat) (g8 : Nat) (w0 w8 : World), T.length = m0 → Turns n ls T → T.Pairwise (slt n s) → Below w.heap.size w w0 → w0.heap.size ≤ g8 → Blk w8 g8 .i64 3 (iN (asL n s ls T)) → Below w0.heap.size w0 w8 →
      ∃ (g c : Nat) (sa : List Nat), Ending.returned (.slice (some ⟨g8, 0, none⟩) n n) = .returned (.slice (some ⟨g, 0, none⟩) n c) ∧ c = n ∧ w.heap.size ≤ g ∧ Blk w8 g .i64 3 (iN sa) ∧ IsSA n s sa ∧ Below w.heap.size w w8 :=
     fun T g8 w0 w8 _ hT hO hB hg hK hB2 => ⟨g8, n, asL n s ls T, rfl, rfl, Nat.le_trans hB.size hg, hK, asL_sa HX.out hT hO, zaf hB hB2⟩
    have HRET := zaa.mk hret
    clear hret hpos0
    by_cases he : nms1 = m0
    ·have t3 : ((nms1 : Int) == (m0 : Int)) = true := beq_iff_eq.2 (by omega)
     have t4 : (nms1 == m0) = true := beq_iff_eq.2 he
     have HE := zaa.mk (show (nms n s ls).2.1 + 1 = (T0 n ls).length from by rw [HN1.out, HM0.out]; exact he)
     clear he
     go_wp2_with (first
      | (go_at_call 82; with_reducible refine (induce_at gx A c0 gl gz n m s ls _ A2 c2 m0 (T0 n ls) HM0.out I3.out HX.out HN.out.sm CT.out (zbg n ls)).mono ?_; rintro e w4 ⟨g4, rfl, hG, hK, hB⟩; have K4 := zaa.mk hK; have I4 := zaa.mk (I3.out.below hB); have CT4 := zaa.mk (Kd.C_below CT.out hB); have B4 := zaa.mk (zaf C4.out hB); clear hG hK hB I3 CT C4)
      | (go_at_call 81; with_reducible refine (names_at gx A c0 gl gz n m s ls _ g4 nms1 I4.out HX.out K4.out HN.out.nb HN1.out).mono ?_; rintro e w5 ⟨v5, rfl, hR, hB⟩; obtain ⟨A5, c5, e5⟩ := Kd.R_slice hR; rw [HRL.out] at e5; subst e5; have R5 := zaa.mk (show Kd.C (Kd.int .i64) w5 A5 m0 (iN (rowL n s ls)) from by (have h := (Kd.R_reads' hR).2.2; rw [HRL.out] at h; exact h)); have I5 := zaa.mk (I4.out.below hB); have CT5 := zaa.mk (Kd.C_below CT4.out hB); have B5 := zaa.mk (zaf B4.out hB); clear hR hB I4 CT4 K4 B4)
      | ((with_reducible refine zay (N := 45) rfl ?_); refine zce rfl rfl m0 rfl rfl Tryd.underlying29 .i64 info3 (by decide) (by have := HN.out.nb; have := HNM.out; omega) ?_; intro go w6 G6 K6 B6))
     have K6' := zaa.mk (show Blk w6 go .i64 3 (tabn m0 (fun b => (fO n s ls 0 b : Int))) from by have := K6.out; rw [zb8] at this; exact (congrArg (Blk _ go .i64 3) (zbd (fun j _ => by rw [fO_zero]; rfl))).mp this)
     clear K6
     obtain ⟨adR, hadR, _⟩ := AR.out w5 A5 c5 R5.out 0 HPOS.out
     obtain ⟨adT, hadT, _⟩ := c_cell CT5.out (i := 0) (by rw [HM0.out]; exact HPOS.out) HM0.out.symm
     subst hadR hadT
     go_loopg [52] m0 (fun q v52 w' => ∃ (L : Int) (i : Nat), v52 = .int .i64 L ∧ zaa (L = (i : Int) ∧ i + q = m0) ∧ zaa (Blk w' go .i64 3 (tabn m0 (fun b => (fO n s ls i b : Int)))) ∧ zaa (Below w5.heap.size w5 w'))
     case atStart => exact ⟨0, 0, rfl, ⟨rfl, by omega⟩, K6', B6⟩
     case round =>
      clear K6' B6
      obtain ⟨L, i, rfl, HL, K, C⟩ := hrel
      cases gk with
      | succ q =>
       obtain rfl : L = (i : Int) := HL.out.1
       have him : i < m0 := by have := HL.out; omega
       have t1 : decide ((i : Int) < (m0 : Int)) = true := decide_eq_true (by omega)
       have p1 : ((i : Int) < (m0 : Int)) = True := eq_true (by omega)
       have p2 : (i < m0) = True := eq_true him
       have e1 : wrap64 ((i : Int) + 1) = ((i + 1 : Nat) : Int) := by have := HN.out.nb; have := HNM.out; rw [w64 (by omega) (by omega)]; omega
       obtain ⟨_, h1, h2⟩ := AR.out w5 (some adR) c5 R5.out i him
       cases h1
       have k1 := (C.out.cell (World.block_lt_of_cell? w5 _ h2)).trans h2
       obtain ⟨_, h3, h4⟩ := c_cell CT5.out (i := i) (by rw [HM0.out]; exact him) HM0.out.symm
       cases h3
       have k2 := (C.out.cell (World.block_lt_of_cell? w5 _ h4)).trans h4
       have hrm := (row_ok HX.out).2.2.1 i (by rw [HM0.out]; exact him)
       rw [HE.out, HM0.out] at hrm
       have ho := (ord_one HX.out HE.out).2.2 i (by rw [HM0.out]; exact him)
       have hfs := fO_succ (n := n) (s := s) (ls := ls) i
       obtain ⟨r, hr⟩ : ∃ r, row n s ls i = r := ⟨_, rfl⟩
       obtain ⟨x, hx⟩ : ∃ x, (T0 n ls).getD i 0 = x := ⟨_, rfl⟩
       rw [hr] at k1 hrm ho hfs
       rw [hx] at k2 ho
       have p3 : ((r : Int) < (m0 : Int)) = True := eq_true (by omega)
       have p4 : (r < m0) = True := eq_true hrm
       have kf := K.out.free r
       have kg := K.out.cell r (by rw [za2]; exact hrm)
       have HO := zaa.mk (And.intro ho hfs)
       clear h2 h4 him hrm ho hfs hr hx
       go_wp2
       go_roundg q
       case measure => omega
       case rel =>
        refine ⟨((i + 1 : Nat) : Int), i + 1, by first | rfl | simp only [e1] | (rw [e1]), ⟨rfl, by have := HL.out; omega⟩, ⟨zb7 K.out (fun b hb => ?_)⟩, ⟨zat C.out G6.out⟩⟩
        rw [HO.out.2 b]
        by_cases e : b = r
        ·rw [if_pos e, if_pos e, e, List.getD_eq_getElem?_getD, HO.out.1]; rfl
        ·rw [if_neg e, if_neg e]
      | zero =>
       have t1 : decide (L < (m0 : Int)) = false := decide_eq_false (by have := HL.out; omega)
       have hsl : (srt n s ls).length = m0 := by rw [srt_len HX.out, HM0.out]
       have K9 := zaa.mk (show Blk wr go .i64 3 (iN (srt n s ls)) from by
        rw [iN_tab, hsl]
        refine (congrArg (Blk _ go .i64 3) (zbd (fun b hb => ?_))).mp K.out
        have ei : i = (T0 n ls).length := by rw [HM0.out]; have := HL.out; omega
        rw [ei, fO_end HX.out HE.out (by rw [HM0.out]; exact hb)])
       have HSL := zaa.mk hsl
       have C9 := zaa.mk (zaf B5.out C.out)
       have I9 := zaa.mk (I5.out.below C.out)
       have CK := zaa.mk (show Kd.C (Kd.int .i64) wr (some ⟨go, 0, none⟩) m0 (iN (srt n s ls)) from by
        have h := blk_C K9.out (by rw [zb1, hsl]; have := HN.out.nb; have := HNM.out; omega)
        rw [zb1, hsl] at h; exact h)
       clear hsl HL K C K9
       go_wp2_with (first
        | (go_at_call 82; with_reducible refine (induce_at gx A c0 gl gz n m s ls _ (some ⟨go, 0, none⟩) m0 m0 (srt n s ls) HSL.out I9.out HX.out HN.out.sm CK.out (ord_one HX.out HE.out).1).mono ?_; rintro e w8 ⟨g8, rfl, hG, hK, hB⟩; have K8 := zaa.mk (And.intro hG (And.intro hK hB)); clear hG hK hB))
       go_ret
       exact HRET.out (srt n s ls) g8 wr w8 HSL.out (ord_one HX.out HE.out).1 (ord_one HX.out HE.out).2.1 C9.out K8.out.1 K8.out.2.1 K8.out.2.2
    ·have t3 : ((nms1 : Int) == (m0 : Int)) = false := beq_false_of_ne (by omega)
     have t4 : (nms1 == m0) = false := beq_false_of_ne he
     have HNum := zaa.mk (show Num m0 nms1 (row n s ls) from by
      obtain ⟨r1, r2, r3, r4⟩ := row_ok HX.out
      rw [HM0.out] at r1 r2 r3 r4
      rw [HN1.out] at r3 r4
      have := HN.out.nb
      have := HNM.out
      exact ⟨HPOS.out, r1, r2, r3, by omega, by omega⟩)
     have hi0 := HIND.out
     rw [HM0.out] at hi0
     unfold IndOk at hi0
     have HI0 := zaa.mk hi0
     clear hi0
     clear he
     go_wp2_with (first
      | (go_at_call 82; with_reducible refine (induce_at gx A c0 gl gz n m s ls _ A2 c2 m0 (T0 n ls) HM0.out I3.out HX.out HN.out.sm CT.out (zbg n ls)).mono ?_; rintro e w4 ⟨g4, rfl, hG, hK, hB⟩; have K4 := zaa.mk hK; have I4 := zaa.mk (I3.out.below hB); have CT4 := zaa.mk (Kd.C_below CT.out hB); have B4 := zaa.mk (zaf C4.out hB); clear hG hK hB I3 CT C4)
      | (go_at_call 81; with_reducible refine (names_at gx A c0 gl gz n m s ls _ g4 nms1 I4.out HX.out K4.out HN.out.nb HN1.out).mono ?_; rintro e w5 ⟨v5, rfl, hR, hB⟩; obtain ⟨A5, c5, e5⟩ := Kd.R_slice hR; rw [HRL.out] at e5; subst e5; have R5 := zaa.mk (show Kd.C (Kd.int .i64) w5 A5 m0 (iN (rowL n s ls)) from by (have h := (Kd.R_reads' hR).2.2; rw [HRL.out] at h; exact h)); have I5 := zaa.mk (I4.out.below hB); have CT5 := zaa.mk (Kd.C_below CT4.out hB); have B5 := zaa.mk (zaf B4.out hB); clear hR hB I4 CT4 K4 B4)
      | ((with_reducible refine zay (N := 45) rfl ?_); refine zce rfl rfl m0 rfl rfl Tryd.underlying29 .i64 info3 (by decide) (by have := HN.out.nb; have := HNM.out; omega) ?_; intro go w6 G6 K6 B6)
      | (go_at_call 67; with_reducible refine (HI0.out nms1 (row n s ls) A5 c5 w6 HNum.out (by have h := Kd.C_below R5.out B6.out; rw [row_tab, HM0.out] at h; exact h)).mono ?_; rintro e w7 ⟨g7, c7, sa, rfl, hc7, hG, hK, hS, hB⟩; have G7 := zaa.mk hG; have S7 := zaa.mk hS; have K7 := zaa.mk hK; have KO := zaa.mk (show Blk w7 go .i64 3 (tabn m0 (fun b => if b < 0 then (((T0 n ls).getD (sa.getD b 0) 0 : Nat) : Int) else 0)) from by (have h := K6.out.below hB; rw [zb8] at h; exact (congrArg (Blk _ go .i64 3) (zbd (fun j _ => (if_neg (Nat.not_lt_zero j)).symm))).mp h)); have B7 := zaa.mk (zaf B6.out hB); have NE := zaa.mk (show go ≠ g7 from by have := K6.out.lt; omega); clear hc7 hG hK hS hB K6 B6))
     obtain ⟨adT, hadT, _⟩ := c_cell CT5.out (i := 0) (by rw [HM0.out]; exact HPOS.out) HM0.out.symm
     subst hadT
     clear G7
     go_loopg [69] m0 (fun q v69 w' => ∃ (L : Int) (i : Nat), v69 = .int .i64 L ∧ zaa (L = (i : Int) ∧ i + q = m0) ∧ zaa (Blk w' go .i64 3 (tabn m0 (fun b => if b < i then (((T0 n ls).getD (sa.getD b 0) 0 : Nat) : Int) else 0))) ∧ zaa (Blk w' g7 .i64 3 (iN sa)) ∧ zaa (Below w5.heap.size w5 w'))
     case atStart => exact ⟨0, 0, rfl, ⟨rfl, by omega⟩, KO, K7, B7⟩
     case round =>
      clear KO K7 B7
      obtain ⟨L, i, rfl, HL, K, KS, C⟩ := hrel
      cases gk with
      | succ q =>
       obtain rfl : L = (i : Int) := HL.out.1
       have him : i < m0 := by have := HL.out; omega
       have t1 : decide ((i : Int) < (m0 : Int)) = true := decide_eq_true (by omega)
       have p1 : ((i : Int) < (m0 : Int)) = True := eq_true (by omega)
       have p2 : (i < m0) = True := eq_true him
       have e1 : wrap64 ((i : Int) + 1) = ((i + 1 : Nat) : Int) := by have := HN.out.nb; have := HNM.out; rw [w64 (by omega) (by omega)]; omega
       have hsl := S7.out.p.len
       have k1 := KS.out.cell i (by rw [zb1, hsl]; exact him)
       rw [iN_getD] at k1
       have hym := S7.out.p.lt (sa.getD i 0) (by rw [List.getD_eq_getElem?_getD, List.getElem?_eq_getElem (by omega)]; exact List.getElem_mem _)
       obtain ⟨y, hy⟩ : ∃ y, sa.getD i 0 = y := ⟨_, rfl⟩
       rw [hy] at k1 hym
       have p3 : ((y : Int) < (m0 : Int)) = True := eq_true (by omega)
       have p4 : (y < m0) = True := eq_true hym
       obtain ⟨_, h3, h4⟩ := c_cell CT5.out (i := y) (by rw [HM0.out]; exact hym) HM0.out.symm
       cases h3
       have k2 := (C.out.cell (World.block_lt_of_cell? w5 _ h4)).trans h4
       obtain ⟨x, hx⟩ : ∃ x, (T0 n ls).getD y 0 = x := ⟨_, rfl⟩
       rw [hx] at k2
       have kf := K.out.free i
       have kg := K.out.cell i (by rw [za2]; exact him)
       have HO := zaa.mk (And.intro hy hx)
       clear h4 him hym hy hx hsl
       go_wp2
       go_roundg q
       case measure => omega
       case rel =>
        refine ⟨((i + 1 : Nat) : Int), i + 1, by first | rfl | simp only [e1] | (rw [e1]), ⟨rfl, by have := HL.out; omega⟩, ⟨zb7 K.out (fun b hb => ?_)⟩, ⟨KS.out.far NE.out.symm _⟩, ⟨zat C.out G6.out⟩⟩
        by_cases e : b = i
        ·rw [if_pos e, if_pos (by omega), e, HO.out.1, HO.out.2]
        ·rw [if_neg e]
         by_cases h2 : b < i
         ·rw [if_pos h2, if_pos (by omega)]
         ·rw [if_neg h2, if_neg (by omega)]
      | zero =>
       have t1 : decide (L < (m0 : Int)) = false := decide_eq_false (by have := HL.out; omega)
       have hos := ord_many HX.out (sa := sa) (by rw [HM0.out]; exact S7.out)
       obtain ⟨U, hU⟩ : ∃ U, sa.map (fun i => (T0 n ls).getD i 0) = U := ⟨_, rfl⟩
       have hsl : U.length = m0 := by rw [← hU, List.length_map, S7.out.p.len]
       have K9 := zaa.mk (show Blk wr go .i64 3 (iN U) from by
        rw [iN_tab, hsl]
        refine (congrArg (Blk _ go .i64 3) (zbd (fun b hb => ?_))).mp K.out
        rw [if_pos (by have := HL.out; omega), ← hU, map_getD _ _ _ (by rw [S7.out.p.len]; exact hb)])
       rw [hU] at hos
       have HOS := zaa.mk hos
       have HSL := zaa.mk hsl
       have C9 := zaa.mk (zaf B5.out C.out)
       have I9 := zaa.mk (I5.out.below C.out)
       have CK := zaa.mk (show Kd.C (Kd.int .i64) wr (some ⟨go, 0, none⟩) m0 (iN U) from by
        have h := blk_C K9.out (by rw [zb1, hsl]; have := HN.out.nb; have := HNM.out; omega)
        rw [zb1, hsl] at h; exact h)
       clear hsl hos hU HL K C K9 KS
       go_wp2_with (first
        | (go_at_call 82; with_reducible refine (induce_at gx A c0 gl gz n m s ls _ (some ⟨go, 0, none⟩) m0 m0 U HSL.out I9.out HX.out HN.out.sm CK.out HOS.out.1).mono ?_; rintro e w8 ⟨g8, rfl, hG, hK, hB⟩; have K8 := zaa.mk (And.intro hG (And.intro hK hB)); clear hG hK hB))
       go_ret
       exact HRET.out U g8 wr w8 HSL.out HOS.out.1 HOS.out.2 C9.out K8.out.1 K8.out.2.1 K8.out.2.2
end Go.Proofs.YtdifgiceallpiaaDoor.Hd
end
section
namespace Go.Proofs.YtdifgiceallpiaaDoor.Sais
def txt (x : List Nat) (i : Nat) : Nat := if i < x.length then x.getD i 0 + 1 else 0
end Go.Proofs.YtdifgiceallpiaaDoor.Sais
namespace Go.Proofs.YtdifgiceallpiaaDoor.Hd
open Go Go.RowKit YtdifgiceallpiaaDoorW.PrintWords YtdifgiceallpiaaDoorW.PrintLast YtdifgiceallpiaaDoorW.PrintMore YtdifgiceallpiaaDoor.Hw YtdifgiceallpiaaDoor.Com YtdifgiceallpiaaDoor.Cn YtdifgiceallpiaaDoor.P YtdifgiceallpiaaDoor.Sais
attribute [local go_sem] za9 za8 zbi zbj za0 za1 zba zbb
theorem num_txt (x : List Nat) (h : ∀ c ∈ x, c < 256) (hl : x.length ≤ 1073741824) : Num (x.length + 1) 257 (txt x) := by
 refine ⟨by omega, by simp [txt], fun i hi => ?_, fun i hi => ?_, by omega, by omega⟩
 ·unfold txt; rw [if_pos (by omega)]; omega
 ·unfold txt
  split
  ·rename_i h1
   have := h (x.getD i 0) (by rw [List.getD_eq_getElem?_getD, List.getElem?_eq_getElem h1]; exact List.getElem_mem _)
   omega
  ·omega
theorem cut1 {o : Oper} {a : Act} {W : World} {x : Operand} {A : Option Addr} {n c : Nat} (ho : o.op = .slice 29 x (some (.const (.int .i64 1))) none none) (hx : a.eval x = .slice A n c) (hn : 1 ≤ n) :
  (execOp a.eval o).run Tryd.prog W = .ok (.value (.slice (if c = 1 then A else A.map (·.add (1 * 1))) (n - 1) (c - 1))) W := by
 obtain ⟨i, hi, _, hs, _⟩ := info_parts info3
 have h := cut_from 29 3 .i64 Tryd.underlying29 hi 1 hs A n c 1 (by omega) (by omega) W
 have e : (1 : Int).toNat = 1 := rfl
 rw [e] at h
 have h2 : (Instr.sliceAt 29 (.slice A n c) (some (.int .i64 1)) none none).run Tryd.prog W = .ok (.slice (if c = 1 then A else A.map (·.add (1 * 1))) (n - 1) (c - 1)) W := by
  simp [Instr.sliceAt, h]
 have h3 : a.eval (.const (.int .i64 1)) = .int .i64 1 := rfl
 simp [execOp, ho, hx, h2, h3]
theorem quick_ok (x : ByteArray) (w : World) (hx : x.size ≤ 1073741824) : Calls Tryd.prog 47 #[.string x] w fun e w' => ∃ (v : Value) (sa : List Nat), e = .returned v ∧ Kd.Q (Kd.int .i64) 3 w' w.heap.size (fun _ => True) v (iN (sa.drop 1)) ∧ IsSA (x.size + 1) (txt (nb x)) sa ∧ Below w.heap.size w w' := by
 have HX := zaa.mk hx
 obtain ⟨n, hn⟩ : ∃ n, x.size + 1 = n := ⟨_, rfl⟩
 have e0 : wrap64 ((x.size : Int) + 1) = (n : Int) := by rw [w64 (by omega) (by omega)]; omega
 have HN := zaa.mk hn
 rw [hn]
 clear hx hn
 go_enter Tryd.func47, Tryd.ntmps47
 go_wp2_with (first
  | ((with_reducible refine zay (N := 8) rfl ?_); refine zce rfl rfl n (congrArg (Value.int .i64) e0) (congrArg (Value.int .i64) e0) Tryd.underlying29 .i64 info3 (by decide) (by have := HX.out; have := HN.out; omega) ?_; intro g w2 G2 B2 C2))
 have B2' := zaa.mk (show Blk w2 g .i64 3 (tabn n (fun j => if j < 0 then (txt (nb x) j : Int) else 0)) from by have := B2.out; rw [zb8] at this; exact this)
 clear B2 e0
 go_loopg [11] x.size (fun q v11 w' => ∃ (L : Int) (i : Nat), v11 = .int .i64 L ∧ zaa (L = (i : Int) ∧ i + q = x.size) ∧ zaa (Blk w' g .i64 3 (tabn n (fun j => if j < i then (txt (nb x) j : Int) else 0))) ∧ zaa (Below w.heap.size w w'))
 case atStart => exact ⟨0, 0, rfl, ⟨rfl, by omega⟩, B2', C2⟩
 case round =>
  clear B2' C2
  obtain ⟨L, i, rfl, HL, B, C⟩ := hrel
  cases gk with
  | succ q =>
   obtain rfl : L = (i : Int) := HL.out.1
   have hin : i < x.size := by have := HL.out; omega
   have t1 : decide ((i : Int) < (x.size : Int)) = true := decide_eq_true (by omega)
   have p1 : ((i : Int) < (x.size : Int)) = True := eq_true (by omega)
   have p2 : (i < x.size) = True := eq_true hin
   have p3 : ((i : Int) < (n : Int)) = True := eq_true (by have := HN.out; omega)
   have p4 : (i < n) = True := eq_true (by have := HN.out; omega)
   have e1 : wrap64 ((i : Int) + 1) = ((i + 1 : Nat) : Int) := by have := HX.out; rw [w64 (by omega) (by omega)]; omega
   have kf := B.out.free i
   have kg := B.out.cell i (by rw [za2]; have := HN.out; omega)
   have hb := bt_nb x i
   have HIN := zaa.mk hin
   clear hin
   go_wp2
   go_roundg q
   case measure => omega
   case rel =>
    refine ⟨(i : Int) + 1, i + 1, rfl, ⟨by omega, by have := HL.out; omega⟩, ⟨?_⟩, ⟨zat C.out G2.out⟩⟩
    have hxi : (x[i]'(HIN.out)).toNat = (nb x).getD i 0 := by
     unfold nb
     rw [List.getD_eq_getElem?_getD, List.getElem?_map, List.getElem?_eq_getElem (show i < x.data.toList.length by have := HIN.out; simpa using this)]
     rfl
    have hlt := nb_lt x ((nb x).getD i 0) (by rw [List.getD_eq_getElem?_getD, List.getElem?_eq_getElem (by rw [zas]; exact HIN.out)]; exact List.getElem_mem _)
    rw [hxi]
    refine zb7 B.out (fun j hj => ?_)
    by_cases e : j = i
    ·rw [if_pos e, if_pos (by omega), e]
     unfold txt
     rw [if_pos (by rw [zas]; exact HIN.out), w64 (x := (((nb x).getD i 0 : Nat) : Int)) (by omega) (by omega), w64 (by omega) (by omega)]
     omega
    ·rw [if_neg e]
     by_cases h2 : j < i
     ·rw [if_pos h2, if_pos (by omega)]
     ·rw [if_neg h2, if_neg (by omega)]
  | zero =>
   have t1 : decide (L < (x.size : Int)) = false := decide_eq_false (by have := HL.out; omega)
   have K4 := zaa.mk (show Blk wr g .i64 3 (tabn n (fun j => (txt (nb x) j : Int))) from by
    refine (congrArg (Blk _ g .i64 3) (zbd (fun j hj => ?_))).mp B.out
    by_cases h2 : j < i
    ·rw [if_pos h2]
    ·rw [if_neg h2]
     unfold txt
     rw [zas, if_neg (by have := HL.out; omega)]; rfl)
   have CK := zaa.mk (show Kd.C (Kd.int .i64) wr (some ⟨g, 0, none⟩) n (tabn n (fun j => (txt (nb x) j : Int))) from by
    have h := blk_C K4.out (by rw [za2]; have := HX.out; have := HN.out; omega)
    rw [za2] at h; exact h)
   have hnum := num_txt (nb x) (nb_lt x) (by rw [zas]; exact HX.out)
   rw [zas, HN.out] at hnum
   have HNUM := zaa.mk hnum
   have hind := induced_ok n n (Nat.le_refl n)
   unfold IndOk at hind
   have hq : Calls Tryd.prog 67 #[.slice (some ⟨g, 0, none⟩) n n, .int .i64 257] wr fun e w' => ∃ (g c : Nat) (sa : List Nat), e = .returned (.slice (some ⟨g, 0, none⟩) n c) ∧ c = n ∧ wr.heap.size ≤ g ∧ Blk w' g .i64 3 (iN sa) ∧ IsSA n (txt (nb x)) sa ∧ Below wr.heap.size wr w' := hind 257 (txt (nb x)) (some ⟨g, 0, none⟩) n wr hnum CK.out
   have HIND := zaa.mk hq
   clear hind hnum HL B hq
   go_wp2_with (first
    | (go_at_call 67; with_reducible refine HIND.out.mono ?_; rintro e w3 ⟨g3, c3, sa, rfl, rfl, hG, hK, hS, hB⟩; have G3 := zaa.mk (Nat.le_trans C.out.size hG); have K3 := zaa.mk hK; have S3 := zaa.mk hS; have B3 := zaa.mk (zaf C.out hB); clear hG hK hS hB)
    | ((with_reducible refine zay (N := 25) rfl ?_); refine val_event rfl (cut1 rfl rfl (by have := HN.out; omega)) ?_; obtain ⟨v25, hv25⟩ : ∃ v, (Value.slice (if c3 = 1 then some ⟨g3, 0, none⟩ else (some (⟨g3, 0, none⟩ : Addr)).map (·.add (1 * 1))) (c3 - 1) (c3 - 1)) = v := ⟨_, rfl⟩; rw [hv25]; have HV := zaa.mk hv25; clear hv25))
   go_ret
   have hl : (iN sa).length = c3 := by rw [zb1, S3.out.p.len]
   have hR := K3.out.R G3.out (by rw [hl]; have := HX.out; have := HN.out; simp [maxLen]; omega) (fun _ => True) trivial
   rw [hl] at hR
   have hQ := Kd.Q_drop (Kd.Q_of_R hR) (k := 1) (by rw [hl]; have := HN.out; omega)
   have e : iN (sa.drop 1) = (iN sa).drop 1 := by simp [iN, List.map_drop]
   rw [← e] at hQ
   rw [← HV.out]
   exact ⟨_, sa, rfl, hQ, S3.out, B3.out⟩
end Go.Proofs.YtdifgiceallpiaaDoor.Hd
end
