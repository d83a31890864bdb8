/- suffix: names, walked by hand. -/
import Derived.Test.YtdifgiceallpiaaDoorZHSa4
set_option linter.unusedVariables false
set_option linter.unusedSimpArgs false
set_option linter.unusedSectionVars false
namespace Go.Proofs.YtdifgiceallpiaaDoor.Sais
section
variable {n : Nat} {s : Nat → Nat} {ls : Nat → Bool}
/-- The names, after so many ends. -/
def stN (n : Nat) (s : Nat → Nat) (ls : Nat → Bool) (Lg : List Nat) (j : Nat) : (Nat → Nat) × Nat × Option Nat := nmL (W n s ls) ((Lg.take j).filter (tn ls))
theorem stN_zero (Lg : List Nat) : stN n s ls Lg 0 = (fun _ => 0, 0, none) := by simp [stN, nmL]
theorem stN_no {Lg : List Nat} {j x : Nat} (hj : Lg[j]? = some x) (h : tn ls x = false) : stN n s ls Lg (j + 1) = stN n s ls Lg j := by
  unfold stN
  rw [List.take_add_one, hj, List.filter_append]
  simp [h]
theorem stN_yes {Lg : List Nat} {j x : Nat} (hj : Lg[j]? = some x) (h : tn ls x = true) : stN n s ls Lg (j + 1) = nmStep (W n s ls) (stN n s ls Lg j) x := by
  unfold stN
  rw [← nmL_snoc, List.take_add_one, hj, List.filter_append]
  simp [h]
theorem stN_end (hx : Txt n s ls) : stN n s ls (asL n s ls (T0 n ls)) n = nms n s ls := by
  unfold stN nms srt
  rw [List.take_of_length_le (by rw [(asL_perm hx (T0_turns n ls)).len]; exact Nat.le_refl _)]
theorem stN_ok (hx : Txt n s ls) (j : Nat) : NmOk (W n s ls) (((asL n s ls (T0 n ls)).take j).filter (tn ls)) (stN n s ls (asL n s ls (T0 n ls)) j) := by
  have hp := asL_perm hx (T0_turns n ls)
  have hr := asL_rel hx (T0_turns n ls) (rels_word hx (T0_turns n ls))
  refine nm_ok _ _ rfl ((hp.nd.sublist (List.take_sublist _ _)).filter _) ((hr.sublist (List.take_sublist _ _)).filter _)
theorem stN_many (hx : Txt n s ls) (j : Nat) : (stN n s ls (asL n s ls (T0 n ls)) j).2.1 ≤ n := by
  have hk := stN_ok hx j
  have hp := asL_perm hx (T0_turns n ls)
  cases hL : (((asL n s ls (T0 n ls)).take j).filter (tn ls)).getLast? with
  | none =>
    have := (hk.z (List.getLast?_eq_none_iff.1 hL)).1
    omega
  | some x =>
    have h1 := (hk.l x hL).2.2
    have h2 : (((asL n s ls (T0 n ls)).take j).filter (tn ls)).length ≤ n := by
      have a := List.length_filter_le (tn ls) ((asL n s ls (T0 n ls)).take j)
      have b := List.length_take_le j (asL n s ls (T0 n ls))
      have c := hp.len
      have d := List.length_take (i := j) (l := asL n s ls (T0 n ls))
      omega
    omega
theorem stN_last (hx : Txt n s ls) {j x y : Nat} (hj : (asL n s ls (T0 n ls))[j]? = some x) (hy : (stN n s ls (asL n s ls (T0 n ls)) j).2.2 = some y) : y < n ∧ y ≠ x := by
  have hk := stN_ok hx j
  have hp := asL_perm hx (T0_turns n ls)
  cases hL : (((asL n s ls (T0 n ls)).take j).filter (tn ls)).getLast? with
  | none =>
    have := (hk.z (List.getLast?_eq_none_iff.1 hL)).2
    rw [this] at hy
    cases hy
  | some z =>
    have h1 := (hk.l z hL).1
    rw [h1] at hy
    obtain rfl : z = y := Option.some.inj hy
    have hm := (List.mem_filter.1 (List.mem_of_getLast? hL)).1
    refine ⟨hp.lt z (List.mem_of_mem_take hm), ?_⟩
    rintro rfl
    obtain ⟨i, hi, e⟩ := List.mem_take_iff_getElem.1 hm
    have : (asL n s ls (T0 n ls))[i]? = (asL n s ls (T0 n ls))[j]? := by
      rw [hj, ← e]
      exact List.getElem?_eq_getElem (by omega)
    have := (List.getElem?_inj (by omega) hp.nd).1 this
    omega
def rowL (n : Nat) (s : Nat → Nat) (ls : Nat → Bool) : List Nat := (T0 n ls).map (nms n s ls).1
def rowT (n : Nat) (s : Nat → Nat) (ls : Nat → Bool) (i : Nat) : List Nat := ((List.range i).filter (tn ls)).map (nms n s ls).1
theorem rowT_end : rowT n s ls n = rowL n s ls := rfl
theorem rowT_len (i : Nat) : (rowT n s ls i).length ≤ i := by
  unfold rowT
  rw [List.length_map]
  have := List.length_filter_le (tn ls) (List.range i)
  rw [List.length_range] at this
  exact this
theorem rowT_no {i : Nat} (h : tn ls i = false) : rowT n s ls (i + 1) = rowT n s ls i := by
  unfold rowT
  rw [List.range_succ, List.filter_append]
  simp [h]
theorem rowT_yes {i : Nat} (h : tn ls i = true) : rowT n s ls (i + 1) = rowT n s ls i ++ [(nms n s ls).1 i] := by
  unfold rowT
  rw [List.range_succ, List.filter_append]
  simp [h]
def lastI : Option Nat → Int
  | none => -1
  | some a => (a : Int)
end
end Go.Proofs.YtdifgiceallpiaaDoor.Sais
namespace Go.Proofs.YtdifgiceallpiaaDoor.Hd
open Go Go.RowKit Go.Proofs.YtdifgiceallpiaaDoorW.PrintWords Go.Proofs.YtdifgiceallpiaaDoorW.PrintLast Go.Proofs.YtdifgiceallpiaaDoorW.PrintMore Go.Proofs.YtdifgiceallpiaaDoor.Hw Go.Proofs.YtdifgiceallpiaaDoor.Com Go.Proofs.YtdifgiceallpiaaDoor.Cn Go.Proofs.YtdifgiceallpiaaDoor.P Go.Proofs.YtdifgiceallpiaaDoor.Sais
attribute [local go_sem] max2_int min2_int max_two min_two max_three min_three max_four min_four
section
variable (gx : Nat) (A : Option Addr) (c0 gl gz n m : Nat) (s : Nat → Nat) (ls : Nat → Bool) (w : World)
set_option maxHeartbeats 16000000 in
set_option maxRecDepth 100000 in
theorem names_ok (AS : Option Addr) (cs : Nat) (h : Ind w gx A c0 gl gz n m s ls) (hx : Txt n s ls) (hC : Kd.C (Kd.int .i64) w AS n (iN (asL n s ls (T0 n ls)))) :
    Calls Tryd.prog 81 #[.pointer (some ⟨gx, 0, none⟩), .slice AS n cs] w fun e w' => ∃ v : Value, e = .returned (.tuple #[v, .int .i64 (((nms n s ls).2.1 + 1 : Nat) : Int)]) ∧ Kd.R (Kd.int .i64) 3 w' w.heap.size (fun _ => True) v (iN (rowL n s ls)) ∧ Below w.heap.size w w' := by
  have hp := asL_perm hx (T0_turns n ls)
  obtain ⟨Lg, hLg⟩ : ∃ Lg, asL n s ls (T0 n ls) = Lg := ⟨_, rfl⟩
  have hE := stN_end hx
  have hMany := stN_many hx
  have hLast := fun j x y => stN_last hx (j := j) (x := x) (y := y)
  rw [hLg] at hp hC hE hMany hLast
  have hn2 := hx.n2
  obtain ⟨adS, hadS, _⟩ := Kd.at_int hC 0 (by omega) (by omega)
  subst hadS
  have HCS := Aside0.mk (show ∀ (i x : Nat), Lg[i]? = some x → w.cell? (adS.add i) = some (.int .i64 (x : Int)) from fun i x hi => by
    have hil := (List.getElem?_eq_some_iff.1 hi).1
    obtain ⟨ad2, h1, h2⟩ := Kd.at_int hC (i : Int) (by omega) (by have := hp.len; omega)
    cases h1
    rw [Int.toNat_natCast, rd_nat, iN_getD, List.getD_eq_getElem?_getD, hi] at h2
    exact h2)
  have H := Aside0.mk h
  have HX := Aside0.mk hx
  have HP := Aside0.mk hp
  have HE := Aside0.mk hE
  have HMany := Aside0.mk hMany
  have HLast := Aside0.mk hLast
  have HN := Aside0.mk (And.intro hn2 h.n1)
  have k0 := h.k0
  clear h hx hp hE hMany hLast hC hn2 hLg
  go_enter Tryd.func81, Tryd.ntmps81
  go_wp2_with (first
    | ((with_reducible refine gate_dst (N := 18) rfl ?_); refine make_blk rfl rfl n rfl rfl Tryd.underlying29 .i64 info3 (by decide) (by have := HN.out; omega) ?_; intro g w2 G2 B2 C2))
  have B2' := Aside0.mk (show Blk w2 g .i64 3 (tabn n (fun x => (((stN n s ls Lg 0).1 x : Nat) : Int))) from by have := B2.out; rw [tabn_zero] at this; rw [stN_zero]; exact this)
  clear B2 k0
  go_loopg [7, 8, 21] n (fun q v7 v8 v21 w' => ∃ (L M la : Int) (j : Nat), v7 = .int .i64 M ∧ v8 = .int .i64 la ∧ v21 = .int .i64 L ∧ Aside0 (L = (j : Int) ∧ j + q = n ∧ M = (((stN n s ls Lg j).2.1 : Nat) : Int) ∧ la = lastI (stN n s ls Lg j).2.2) ∧ Aside0 (Blk w' g .i64 3 (tabn n (fun x => (((stN n s ls Lg j).1 x : Nat) : Int)))) ∧ Aside0 (Below w.heap.size w w'))
  case atStart => exact ⟨0, 0, -1, 0, rfl, rfl, rfl, ⟨rfl, by omega, by rw [stN_zero]; rfl, by rw [stN_zero]; rfl⟩, B2', C2⟩
  case round =>
    clear B2' C2
    obtain ⟨L, M, la, j, rfl, rfl, rfl, HL, B, C⟩ := hrel
    cases gk with
    | succ q =>
      obtain rfl : L = (j : Int) := HL.out.1
      have hjn : j < n := by have := HL.out; omega
      have t1 : decide ((j : Int) < (n : Int)) = true := decide_eq_true (by omega)
      have p1 : ((j : Int) < (n : Int)) = True := eq_true (by omega)
      have p2 : (j < n) = True := eq_true hjn
      obtain ⟨x, hxj⟩ : ∃ x, Lg[j]? = some x := ⟨_, List.getElem?_eq_getElem (by rw [HP.out.len]; exact hjn)⟩
      have hxn := HP.out.lt x (List.mem_of_getElem? hxj)
      have hc := HCS.out j x hxj
      have k2 := (C.out.cell (World.block_lt_of_cell? w _ hc)).trans hc
      have p3 : ((x : Int) < (n : Int)) = True := eq_true (by omega)
      have p4 : (x < n) = True := eq_true hxn
      have e1 : wrap64 ((j : Int) + 1) = ((j + 1 : Nat) : Int) := by have := HN.out; rw [w64 (by omega) (by omega)]; omega
      have IH := Aside0.mk (H.out.below C.out)
      have HXJ := Aside0.mk (And.intro hxj hxn)
      clear hc hxj hxn hjn
      cases ht : tn ls x with
      | false =>
        have HT := Aside0.mk ht
        clear ht
        go_wp2_with (first
          | (go_at_call 80; refine (turns_ok gx A c0 gl gz n m s ls _ x IH.out HXJ.out.2).mono ?_; rintro e w3 ⟨rfl, hB⟩; rw [HT.out]; have B3 := Aside0.mk (B.out.below hB); have C3 := Aside0.mk (below_step C.out hB); clear hB))
        go_roundg q
        case measure => omega
        case rel =>
          have e := stN_no (n := n) (s := s) HXJ.out.1 HT.out
          exact ⟨((j + 1 : Nat) : Int), M, la, j + 1, rfl, rfl, by simp only [e1], ⟨rfl, by have := HL.out; omega, by rw [e]; exact HL.out.2.2.1, by rw [e]; exact HL.out.2.2.2⟩, ⟨by rw [e]; exact B3.out⟩, C3⟩
      | true =>
        have HT := Aside0.mk ht
        have hst := stN_yes (n := n) (s := s) HXJ.out.1 ht
        have HMj := HMany.out j
        obtain ⟨st, hst2⟩ : ∃ st, stN n s ls Lg j = st := ⟨_, rfl⟩
        have HLs := HLast.out j x
        rw [hst2] at hst HL B HMj HLs
        obtain ⟨nmF, many, lst⟩ := st
        have HS := Aside0.mk hst
        clear ht hst hst2
        cases lst with
        | none =>
          obtain rfl : la = -1 := HL.out.2.2.2
          obtain rfl : M = (many : Int) := HL.out.2.2.1
          clear HMj HLs
          have hf : ∀ w', Blk w' g .i64 3 (tabn n (fun x => ((nmF x : Nat) : Int))) → Blk (w'.setCell ⟨g, x, none⟩ (.int .i64 (many : Int))) g .i64 3 (tabn n (fun y => (((stN n s ls Lg (j + 1)).1 y : Nat) : Int))) := by
            intro w' hb
            refine blk_step hb (fun y hy => ?_)
            rw [HS.out]
            show _ = ((upd nmF x many y : Nat) : Int)
            unfold upd
            split <;> rfl
          have HF := Aside0.mk hf
          clear hf
          go_wp2_with (first
            | (go_at_call 80; refine (turns_ok gx A c0 gl gz n m s ls _ x IH.out HXJ.out.2).mono ?_; rintro e w3 ⟨rfl, hB⟩; rw [HT.out]; have B3 := Aside0.mk (B.out.below hB); have C3 := Aside0.mk (below_step C.out hB); have kf := B3.out.free x; have kg := B3.out.cell x (by rw [tabn_length]; exact HXJ.out.2); clear hB))
          go_roundg q
          case measure => omega
          case rel =>
            exact ⟨((j + 1 : Nat) : Int), (many : Int), (x : Int), j + 1, rfl, rfl, by simp only [e1], ⟨rfl, by have := HL.out; omega, by rw [HS.out]; rfl, by rw [HS.out]; rfl⟩, ⟨HF.out _ B3.out⟩, ⟨below_set C3.out G2.out⟩⟩
        | some y =>
          obtain rfl : la = (y : Int) := HL.out.2.2.2
          obtain rfl : M = (many : Int) := HL.out.2.2.1
          have hy := HLs y HXJ.out.1 rfl
          have t3 : ((y : Int) != -1) = true := bne_iff_ne.2 (by omega)
          have HY := Aside0.mk hy
          have HM2 := Aside0.mk HMj
          clear HMj HLs hy
          obtain ⟨mx, hmx⟩ : ∃ mx, (if W n s ls y = W n s ls x then many else many + 1) = mx := ⟨_, rfl⟩
          have HMX := Aside0.mk hmx
          have hs2 : stN n s ls Lg (j + 1) = (upd nmF x mx, mx, some x) := by rw [HS.out, ← hmx]; rfl
          have HS2 := Aside0.mk hs2
          have hf : ∀ w', Blk w' g .i64 3 (tabn n (fun x => ((nmF x : Nat) : Int))) → Blk (w'.setCell ⟨g, x, none⟩ (.int .i64 (mx : Int))) g .i64 3 (tabn n (fun y => (((stN n s ls Lg (j + 1)).1 y : Nat) : Int))) := by
            intro w' hb
            refine blk_step hb (fun y hy => ?_)
            rw [HS2.out]
            show _ = ((upd nmF x mx y : Nat) : Int)
            unfold upd
            split <;> rfl
          have HF := Aside0.mk hf
          clear hf hs2
          by_cases hw : W n s ls y = W n s ls x
          · have hd : decide (W n s ls y = W n s ls x) = true := decide_eq_true hw
            obtain rfl : many = mx := by rw [← hmx, if_pos hw]
            have HD := Aside0.mk hd
            clear hd hw hmx
            go_wp2_with (first
              | (go_at_call 80; refine (turns_ok gx A c0 gl gz n m s ls _ x IH.out HXJ.out.2).mono ?_; rintro e w3 ⟨rfl, hB⟩; rw [HT.out]; have B3 := Aside0.mk (B.out.below hB); have C3 := Aside0.mk (below_step C.out hB); have I3 := Aside0.mk (H.out.below C3.out); clear hB IH B C)
              | (go_at_call 83; refine (same_ok gx A c0 gl gz n m s ls _ y x I3.out HX.out HY.out.1 HXJ.out.2 HY.out.2).mono ?_; rintro e w4 ⟨rfl, hB⟩; rw [HD.out]; have B4 := Aside0.mk (B3.out.below hB); have C4 := Aside0.mk (below_step C3.out hB); have kf := B4.out.free x; have kg := B4.out.cell x (by rw [tabn_length]; exact HXJ.out.2); clear hB B3 C3))
            go_roundg q
            case measure => omega
            case rel =>
              exact ⟨((j + 1 : Nat) : Int), (many : Int), (x : Int), j + 1, rfl, rfl, by simp only [e1], ⟨rfl, by have := HL.out; omega, by rw [HS2.out], by rw [HS2.out]; rfl⟩, ⟨HF.out _ B4.out⟩, ⟨below_set C4.out G2.out⟩⟩
          · have hd : decide (W n s ls y = W n s ls x) = false := decide_eq_false hw
            obtain rfl : many + 1 = mx := by rw [← hmx, if_neg hw]
            have HD := Aside0.mk hd
            have e2 : wrap64 ((many : Int) + 1) = ((many + 1 : Nat) : Int) := by have := HN.out; have h2 : many ≤ n := HM2.out; rw [w64 (by omega) (by omega)]; omega
            clear hd hw hmx
            go_wp2_with (first
              | (go_at_call 80; refine (turns_ok gx A c0 gl gz n m s ls _ x IH.out HXJ.out.2).mono ?_; rintro e w3 ⟨rfl, hB⟩; rw [HT.out]; have B3 := Aside0.mk (B.out.below hB); have C3 := Aside0.mk (below_step C.out hB); have I3 := Aside0.mk (H.out.below C3.out); clear hB IH B C)
              | (go_at_call 83; refine (same_ok gx A c0 gl gz n m s ls _ y x I3.out HX.out HY.out.1 HXJ.out.2 HY.out.2).mono ?_; rintro e w4 ⟨rfl, hB⟩; rw [HD.out]; have B4 := Aside0.mk (B3.out.below hB); have C4 := Aside0.mk (below_step C3.out hB); have kf := B4.out.free x; have kg := B4.out.cell x (by rw [tabn_length]; exact HXJ.out.2); clear hB B3 C3))
            go_roundg q
            case measure => omega
            case rel =>
              rw [e2]
              exact ⟨((j + 1 : Nat) : Int), ((many + 1 : Nat) : Int), (x : Int), j + 1, rfl, rfl, by simp only [e1], ⟨rfl, by have := HL.out; omega, by rw [HS2.out], by rw [HS2.out]; rfl⟩, ⟨HF.out _ B4.out⟩, ⟨below_set C4.out G2.out⟩⟩
    | zero =>
      have t1 : decide (L < (n : Int)) = false := decide_eq_false (by have := HL.out; omega)
      have ej : j = n := by have := HL.out; omega
      have hM := HL.out.2.2.1
      rw [ej, HE.out] at hM B
      subst hM
      have k0 := (H.out.below C.out).k0
      have EM := Aside0.mk (show wrap64 ((((nms n s ls).2.1 : Nat) : Int) + 1) = (((nms n s ls).2.1 + 1 : Nat) : Int) from by
        have h1 := HMany.out n
        rw [HE.out] at h1
        have := HN.out
        rw [w64 (by omega) (by omega)]; omega)
      clear HL ej
      go_wp2
      have R0 := Aside0.mk (show Kd.R (Kd.int .i64) 3 wr w.heap.size (fun k => k ≠ g) (.slice none 0 0) (iN (rowT n s ls 0)) from Kd.R_nil _ _ _ _ _)
      go_loopg [11, 51] n (fun q v11 v51 w' => ∃ (L : Int) (i : Nat) (A2 : Option Addr) (c2 : Nat), v11 = .slice A2 (iN (rowT n s ls i)).length c2 ∧ v51 = .int .i64 L ∧ Aside0 (L = (i : Int) ∧ i + q = n) ∧ Aside0 (Blk w' g .i64 3 (tabn n (fun x => (((nms n s ls).1 x : Nat) : Int)))) ∧ Aside0 (Kd.R (Kd.int .i64) 3 w' w.heap.size (fun k => k ≠ g) (.slice A2 (iN (rowT n s ls i)).length c2) (iN (rowT n s ls i))) ∧ Aside0 (Below w.heap.size w w'))
      case atStart => exact ⟨0, 0, none, 0, rfl, rfl, ⟨rfl, by omega⟩, B, R0, C⟩
      case round =>
        clear R0 B C k0 t1
        obtain ⟨L, i, A2, c2, rfl, rfl, HL, B, R, C⟩ := hrel
        cases gk with
        | zero =>
          have t1 : decide (L < (n : Int)) = false := decide_eq_false (by have := HL.out; omega)
          have ei : i = n := by have := HL.out; omega
          rw [ei, rowT_end] at R
          rw [ei]
          clear HL ei
          go_wp2
          go_ret2
          rw [EM.out]
          exact ⟨_, rfl, Kd.R_mono R.out (fun _ _ => trivial), C.out⟩
        | succ q =>
          obtain rfl : L = (i : Int) := HL.out.1
          have hin : i < n := by have := HL.out; omega
          have t1 : decide ((i : Int) < (n : Int)) = true := decide_eq_true (by omega)
          have p1 : ((i : Int) < (n : Int)) = True := eq_true (by omega)
          have p2 : (i < n) = True := eq_true hin
          have e1 : wrap64 ((i : Int) + 1) = ((i + 1 : Nat) : Int) := by have := HN.out; rw [w64 (by omega) (by omega)]; omega
          have IH := Aside0.mk (H.out.below C.out)
          have HIN := Aside0.mk hin
          clear hin
          cases ht : tn ls i with
          | false =>
            have HT := Aside0.mk ht
            clear ht
            go_wp2_with (first
              | (go_at_call 80; refine (turns_ok gx A c0 gl gz n m s ls _ i IH.out HIN.out).mono ?_; rintro e w3 ⟨rfl, hB⟩; rw [HT.out]; have B3 := Aside0.mk (B.out.below hB); have R3 := Aside0.mk (Kd.R_below R.out hB); have C3 := Aside0.mk (below_step C.out hB); clear hB))
            go_roundg q
            case measure => omega
            case rel =>
              have e := rowT_no (n := n) (s := s) HT.out
              refine ⟨((i + 1 : Nat) : Int), i + 1, A2, c2, by rw [e], by simp only [e1], ⟨rfl, by have := HL.out; omega⟩, B3, ⟨by rw [e]; exact R3.out⟩, C3⟩
          | true =>
            have HT := Aside0.mk ht
            clear ht
            obtain ⟨xs, hxs⟩ : ∃ xs, iN (rowT n s ls i) = xs := ⟨_, rfl⟩
            have hxl : xs.length ≤ n := by rw [← hxs, iN_len]; exact Nat.le_trans (rowT_len i) (Nat.le_of_lt HIN.out)
            obtain ⟨y, hy⟩ : ∃ y : Nat, (nms n s ls).1 i = y := ⟨_, rfl⟩
            have HXS := Aside0.mk (show iN (rowT n s ls (i + 1)) = xs ++ [(y : Int)] from by rw [rowT_yes HT.out, ← hxs, ← hy]; simp [iN])
            have HXL := Aside0.mk (show (xs.length + 1) * 8 ≤ 140737488355328 by have := HN.out; omega)
            have HY := Aside0.mk hy
            rw [hxs] at R
            rw [hxs]
            clear hxs hxl hy
            go_wp2_with (first
              | (go_at_call 80; refine (turns_ok gx A c0 gl gz n m s ls _ i IH.out HIN.out).mono ?_; rintro e w3 ⟨rfl, hB⟩; rw [HT.out]; have B3 := Aside0.mk (B.out.below hB); have R3 := Aside0.mk (Kd.R_below R.out hB); have C3 := Aside0.mk (below_step C.out hB); have kg : w3.cell? ⟨g, i, none⟩ = some (.int .i64 (y : Int)) := (by have h := B3.out.cell i (by rw [tabn_length]; exact HIN.out); rw [tabn_getD HIN.out, HY.out] at h; exact h); clear hB)
              | ((with_reducible refine gate_builtin (b := .append) (xs := #[.tmp 57, .tmp 62]) rfl ?_); at_builtin; refine Kd.R_append (Kd.int .i64) (w0 := w) w.heap.size rfl (.tmp 57) (.tmp 62) 29 3 (.int .i64 0) 8 rfl Tryd.underlying29 info3 rfl (by decide) (by decide) (.slice A2 xs.length c2) xs (y : Int) [.int .i64 (y : Int)] (fun k => k ≠ g) (fun _ => False) rfl (by first | (go_simp; done) | (go_simp; rfl)) ?aP (fun _ hk => hk.elim) ?aF ?aO ?aB ?aS ?aL ?_; (case aP => exact rfl); (case aF => exact (fun k hk => by have l1 := B3.out.lt; omega)); (case aO => exact R3.out); (case aB => exact C3.out); (case aS => exact C3.out.size); (case aL => exact HXL.out); intro v1 w5 ho5 hb5 hg5 ha5; obtain ⟨A3, c3, e3⟩ := Kd.R_slice ho5; subst e3; have B5 := Aside0.mk (B3.out.grown hg5 (fun e => (R3.out.1 g e.symm) rfl)); have O5 := Aside0.mk ho5; have C5 := Aside0.mk hb5; clear ho5 hb5 hg5 ha5))
            go_roundg q
            case measure => omega
            case rel =>
              exact ⟨((i + 1 : Nat) : Int), i + 1, A3, c3, by rw [HXS.out, List.length_append, List.length_singleton], by simp only [e1], ⟨rfl, by have := HL.out; omega⟩, B5, ⟨by rw [HXS.out]; exact O5.out⟩, C5⟩
end
end Go.Proofs.YtdifgiceallpiaaDoor.Hd
