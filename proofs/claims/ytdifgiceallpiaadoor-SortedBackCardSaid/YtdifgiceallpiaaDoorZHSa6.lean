/- suffix: induced, walked by hand. -/
import Derived.Test.YtdifgiceallpiaaDoorZHSa5
set_option linter.unusedVariables false
set_option linter.unusedSimpArgs false
set_option linter.unusedSectionVars false
namespace Go.Proofs.YtdifgiceallpiaaDoor.Sais
section
variable {n : Nat} {s : Nat → Nat} {ls : Nat → Bool} {T : List Nat}
theorem T0_small (n : Nat) (ls : Nat → Bool) (hn : 1 ≤ n) : (T0 n ls).length < n := by
  have h1 : (T0 n ls) ⊆ (List.range n).erase 0 := by
    intro x hx
    have := ((T0_turns n ls).mem x).1 hx
    exact (List.mem_erase_of_ne (by have := (tn_iff.1 this.2).1; omega)).2 (List.mem_range.2 this.1)
  have := List.Nodup.length_le_of_subset (T0_turns n ls).nd h1
  rw [List.length_erase_of_mem (List.mem_range.2 (by omega)), List.length_range] at this
  omega
/-- What is in the order, after so many of the row. -/
def fO (n : Nat) (s : Nat → Nat) (ls : Nat → Bool) (i b : Nat) : Nat := if ((List.range i).any (fun a => row n s ls a == b)) = true then (srt n s ls).getD b 0 else 0
theorem fO_zero (b : Nat) : fO n s ls 0 b = 0 := by simp [fO]
theorem fO_succ (i b : Nat) : fO n s ls (i + 1) b = if b = row n s ls i then (srt n s ls).getD b 0 else fO n s ls i b := by
  unfold fO
  rw [List.range_succ, List.any_append]
  by_cases h : b = row n s ls i
  · subst h; simp
  · rw [if_neg h]
    have : ([i].any (fun a => row n s ls a == b)) = false := by
      simp; exact fun e => h e.symm
    rw [this, Bool.or_false]
theorem fO_end (hx : Txt n s ls) (he : (nms n s ls).2.1 + 1 = (T0 n ls).length) {b : Nat} (hb : b < (T0 n ls).length) : fO n s ls (T0 n ls).length b = (srt n s ls).getD b 0 := by
  obtain ⟨_, _, h3⟩ := ord_one hx he
  obtain ⟨r1, r2, r3, r4⟩ := row_ok hx
  obtain ⟨a, ha, e⟩ := range_all (n := (T0 n ls).length) (f := row n s ls) (fun a ha => by have := r3 a ha; omega) (fun a a' ha ha' e => by
    have h4 := h3 a ha
    have h5 := h3 a' ha'
    rw [e, h5] at h4
    have h6 := Option.some.inj h4
    rw [T0_getD ha, T0_getD ha'] at h6
    refine (List.getElem?_inj ha (T0_turns n ls).nd).1 ?_
    rw [List.getElem?_eq_getElem ha, List.getElem?_eq_getElem ha', h6]) b hb
  unfold fO
  rw [if_pos]
  simp only [List.any_eq_true, List.mem_range, beq_iff_eq]
  exact ⟨a, ha, e⟩
end
end Go.Proofs.YtdifgiceallpiaaDoor.Sais
namespace Go.Proofs.YtdifgiceallpiaaDoor.Hd
open Go Go.RowKit Go.Proofs.YtdifgiceallpiaaDoorW.PrintWords Go.Proofs.YtdifgiceallpiaaDoorW.PrintLast Go.Proofs.YtdifgiceallpiaaDoorW.PrintMore Go.Proofs.YtdifgiceallpiaaDoor.Hw Go.Proofs.YtdifgiceallpiaaDoor.Com Go.Proofs.YtdifgiceallpiaaDoor.Cn Go.Proofs.YtdifgiceallpiaaDoor.P Go.Proofs.YtdifgiceallpiaaDoor.Sais
attribute [local go_sem] max2_int min2_int max_two min_two max_three min_three max_four min_four
theorem iN_tab (l : List Nat) : iN l = tabn l.length (fun i => ((l.getD i 0 : Nat) : Int)) := by
  rw [tabn_of (iN l), iN_len]
  exact tabn_congr (fun j _ => iN_getD l j)
theorem as_tab {n : Nat} {s : Nat → Nat} {ls : Nat → Bool} {T : List Nat} (hx : Txt n s ls) (hT : Turns n ls T) : tabn n (AS n s ls T) = iN (asL n s ls T) := by
  obtain ⟨_, h2, _, _⟩ := AS_ok hx hT
  unfold iN asL tabn
  rw [List.map_map]
  refine List.map_congr_left (fun j hj => ?_)
  obtain ⟨x, _, e⟩ := h2 j (List.mem_range.1 hj)
  simp [e]
theorem row_tab (n : Nat) (s : Nat → Nat) (ls : Nat → Bool) : iN (rowL n s ls) = tabn (T0 n ls).length (fun a => (row n s ls a : Int)) := by
  rw [iN_tab]
  unfold rowL
  rw [List.length_map]
  refine tabn_congr (fun j hj => ?_)
  rw [List.getD_eq_getElem?_getD, List.getElem?_map, List.getElem?_eq_getElem hj]
  unfold row
  rw [T0_getD hj]; rfl
theorem map_getD (f : Nat → Nat) (l : List Nat) (i : Nat) (h : i < l.length) : (l.map f).getD i 0 = f (l.getD i 0) := by
  rw [List.getD_eq_getElem?_getD, List.getElem?_map, List.getD_eq_getElem?_getD, List.getElem?_eq_getElem h]; rfl
theorem blk_C {W : World} {g : Nat} {l : List Int} (h : Blk W g .i64 3 l) (hl : l.length ≤ 1099511627776) : Kd.C (Kd.int .i64) W (some ⟨g, 0, none⟩) l.length l :=
  (Kd.R_reads' (h.R (Nat.zero_le g) (by simp [maxLen]; omega) (fun _ => True) trivial)).2.2
theorem c_cell {W : World} {A : Option Addr} {l : List Nat} {k : Nat} (h : Kd.C (Kd.int .i64) W A k (iN l)) {i : Nat} (hi : i < l.length) (hk : k = l.length) : ∃ ad : Addr, A = some ad ∧ W.cell? (ad.add i) = some (.int .i64 ((l.getD i 0 : Nat) : Int)) := by
  obtain ⟨ad2, h1, h2⟩ := Kd.at_int h (i : Int) (by omega) (by omega)
  rw [Int.toNat_natCast, rd_nat, iN_getD] at h2
  exact ⟨ad2, h1, h2⟩
/-- A text that is sorted. -/
structure Num (n m : Nat) (s : Nat → Nat) : Prop where
  n1 : 1 ≤ n
  last : s (n - 1) = 0
  pos : ∀ i, i + 1 < n → 0 < s i
  sm : ∀ i, i < n → s i < m
  nb : n ≤ 1099511627776
  mb : m ≤ 1099511627776
def IndOk (n : Nat) : Prop := ∀ (m : Nat) (s : Nat → Nat) (A : Option Addr) (c0 : Nat) (w : World), Num n m s → Kd.C (Kd.int .i64) w A n (tabn n (fun i => (s i : Int))) →
  Calls Tryd.prog 67 #[.slice A n c0, .int .i64 (m : Int)] w fun e w' => ∃ (g c : Nat) (sa : List Nat), e = .returned (.slice (some ⟨g, 0, none⟩) n c) ∧ c = n ∧ w.heap.size ≤ g ∧ Blk w' g .i64 3 (iN sa) ∧ IsSA n s sa ∧ Below w.heap.size w w'
section
variable (gx : Nat) (A : Option Addr) (c0 gl gz n m : Nat) (s : Nat → Nat) (ls : Nat → Bool) (w : World)
theorem induce_at (AT : Option Addr) (ct k : Nat) (T : List Nat) (hk : T.length = k) (h : Ind w gx A c0 gl gz n m s ls) (hx : Txt n s ls) (hsm : ∀ i, i < n → s i < m) (hTC : Kd.C (Kd.int .i64) w AT k (iN T)) (hT : Turns n ls T) :
    Calls Tryd.prog 82 #[.pointer (some ⟨gx, 0, none⟩), .slice AT k ct] w fun e w' => ∃ g : Nat, e = .returned (.slice (some ⟨g, 0, none⟩) n n) ∧ w.heap.size ≤ g ∧ Blk w' g .i64 3 (iN (asL n s ls T)) ∧ Below w.heap.size w w' := by
  subst hk
  rw [← as_tab hx hT]
  exact induce_ok gx A c0 gl gz n m s ls w AT ct T h hx hsm hTC hT
theorem names_at (g4 k : Nat) (h : Ind w gx A c0 gl gz n m s ls) (hx : Txt n s ls) (hK : Blk w g4 .i64 3 (iN (asL n s ls (T0 n ls)))) (hn : n ≤ 1099511627776) (hk : (nms n s ls).2.1 + 1 = k) :
    Calls Tryd.prog 81 #[.pointer (some ⟨gx, 0, none⟩), .slice (some ⟨g4, 0, none⟩) n n] w fun e w' => ∃ v : Value, e = .returned (.tuple #[v, .int .i64 ((k : Nat) : Int)]) ∧ Kd.R (Kd.int .i64) 3 w' w.heap.size (fun _ => True) v (iN (rowL n s ls)) ∧ Below w.heap.size w w' := by
  subst hk
  refine names_ok gx A c0 gl gz n m s ls w (some ⟨g4, 0, none⟩) n h hx ?_
  have h2 := blk_C hK (by rw [iN_len, (asL_perm hx (T0_turns n ls)).len]; exact hn)
  rw [iN_len, (asL_perm hx (T0_turns n ls)).len] at h2
  exact h2
end
set_option maxHeartbeats 16000000 in
set_option maxRecDepth 100000 in
theorem induced_ok : ∀ N n, n ≤ N → IndOk n := by
  intro N
  induction N with
  | zero => intro n hn m s A c0 w hN; have := hN.n1; omega
  | succ N ih =>
    intro n hn m s A c0 w hN hC
    by_cases h1 : n = 1
    · subst h1
      clear hC hN
      go_enter Tryd.func67, Tryd.ntmps67
      go_wp2
      go_ret
      exact ⟨w.heap.size, 1, [0], rfl, rfl, Nat.le_refl _, blk_new w _, ⟨⟨rfl, by simp, by simp⟩, by simp⟩, below_alloc (Below.refl _ _) _⟩
    have hx : Txt n s (less n s) := txt_of (by have := hN.n1; omega) hN.last hN.pos
    have hind := ih (T0 n (less n s)).length (by have := T0_small n (less n s) hN.n1; omega)
    have HX := Aside0.mk hx
    have HN := Aside0.mk hN
    have HC := Aside0.mk hC
    have HIND := Aside0.mk hind
    have t1 : ((n : Int) == 1) = false := beq_false_of_ne (by omega)
    have t2 : (n == 1) = false := beq_false_of_ne h1
    clear ih hx hind h1 hn hC hN
    go_enter Tryd.func67, Tryd.ntmps67
    go_wp2_with (first
      | (go_at_call 79; refine (fresh_ok A c0 n m s _ HC.out HN.out.n1 HN.out.nb HN.out.mb HN.out.sm).mono ?_; rintro e w2 ⟨gx, gl, gz, rfl, hI, hB⟩; have I2 := Aside0.mk hI; have B2 := Aside0.mk hB; clear hI hB))
    obtain ⟨ls, hls⟩ : ∃ ls, less n s = ls := ⟨_, rfl⟩
    rw [hls] at HX HIND I2
    have R0 := Aside0.mk (show Kd.R (Kd.int .i64) 3 w2 w2.heap.size (fun _ => True) (.slice none 0 0) (iN ((List.range 0).filter (tn ls))) from Kd.R_nil _ _ _ _ _)
    clear t1 t2
    go_loopg [6, 24] n (fun q v6 v24 w' => ∃ (L : Int) (i : Nat) (A2 : Option Addr) (c2 : Nat), v6 = .slice A2 (iN ((List.range i).filter (tn ls))).length c2 ∧ v24 = .int .i64 L ∧ Aside0 (L = (i : Int) ∧ i + q = n) ∧ Aside0 (Kd.R (Kd.int .i64) 3 w' w2.heap.size (fun _ => True) (.slice A2 (iN ((List.range i).filter (tn ls))).length c2) (iN ((List.range i).filter (tn ls)))) ∧ Aside0 (Below w2.heap.size w2 w'))
    case atStart => exact ⟨0, 0, none, 0, rfl, rfl, ⟨rfl, by omega⟩, R0, ⟨Below.refl _ _⟩⟩
    case round =>
      clear R0
      obtain ⟨L, i, A2, c2, rfl, rfl, HL, R, C⟩ := hrel
      cases gk with
      | succ q =>
        obtain rfl : L = (i : Int) := HL.out.1
        have hin : i < n := by have := HL.out; omega
        have t1 : decide ((i : Int) < (n : Int)) = true := decide_eq_true (by omega)
        have p1 : ((i : Int) < (n : Int)) = True := eq_true (by omega)
        have p2 : (i < n) = True := eq_true hin
        have e1 : wrap64 ((i : Int) + 1) = ((i + 1 : Nat) : Int) := by have := HN.out.nb; rw [w64 (by omega) (by omega)]; omega
        have IH := Aside0.mk (I2.out.below C.out)
        have HIN := Aside0.mk hin
        clear hin
        cases ht : tn ls i with
        | false =>
          have HT := Aside0.mk ht
          clear ht
          go_wp2_with (first
            | (go_at_call 80; refine (turns_ok gx A c0 gl gz n m s ls _ i IH.out HIN.out).mono ?_; rintro e w3 ⟨rfl, hB⟩; rw [HT.out]; have R3 := Aside0.mk (Kd.R_below R.out hB); have C3 := Aside0.mk (below_step C.out hB); clear hB))
          go_roundg q
          case measure => omega
          case rel =>
            have e : (List.range (i + 1)).filter (tn ls) = (List.range i).filter (tn ls) := by rw [List.range_succ, List.filter_append]; simp [HT.out]
            exact ⟨((i + 1 : Nat) : Int), i + 1, A2, c2, by rw [e], by simp only [e1], ⟨rfl, by have := HL.out; omega⟩, ⟨by rw [e]; exact R3.out⟩, C3⟩
        | true =>
          have HT := Aside0.mk ht
          clear ht
          obtain ⟨xs, hxs⟩ : ∃ xs, iN ((List.range i).filter (tn ls)) = xs := ⟨_, rfl⟩
          have hxl : xs.length ≤ i := by
            rw [← hxs, iN_len]
            have := List.length_filter_le (tn ls) (List.range i)
            rw [List.length_range] at this; exact this
          have HXS := Aside0.mk (show iN ((List.range (i + 1)).filter (tn ls)) = xs ++ [(i : Int)] from by rw [List.range_succ, List.filter_append, ← hxs]; simp [iN, HT.out])
          have HXL := Aside0.mk (show (xs.length + 1) * 8 ≤ 140737488355328 by have := HN.out.nb; have := HIN.out; omega)
          rw [hxs] at R
          rw [hxs]
          clear hxs hxl
          go_wp2_with (first
            | (go_at_call 80; refine (turns_ok gx A c0 gl gz n m s ls _ i IH.out HIN.out).mono ?_; rintro e w3 ⟨rfl, hB⟩; rw [HT.out]; have R3 := Aside0.mk (Kd.R_below R.out hB); have C3 := Aside0.mk (below_step C.out hB); clear hB)
            | ((with_reducible refine gate_builtin (b := .append) (xs := #[.tmp 30, .tmp 32]) rfl ?_); at_builtin; refine Kd.R_append (Kd.int .i64) (w0 := w2) w2.heap.size rfl (.tmp 30) (.tmp 32) 29 3 (.int .i64 0) 8 rfl Tryd.underlying29 info3 rfl (by decide) (by decide) (.slice A2 xs.length c2) xs (i : Int) [.int .i64 (i : Int)] (fun _ => True) (fun _ => False) rfl (by first | (go_simp; done) | (go_simp; rfl)) ?aP (fun _ hk => hk.elim) ?aF ?aO ?aB ?aS ?aL ?_; (case aP => exact rfl); (case aF => exact (fun _ _ => trivial)); (case aO => exact R3.out); (case aB => exact C3.out); (case aS => exact C3.out.size); (case aL => exact HXL.out); intro v1 w5 ho5 hb5 hg5 ha5; obtain ⟨A3, c3, e3⟩ := Kd.R_slice ho5; subst e3; have O5 := Aside0.mk ho5; have C5 := Aside0.mk hb5; clear ho5 hb5 hg5 ha5))
          go_roundg q
          case measure => omega
          case rel =>
            exact ⟨((i + 1 : Nat) : Int), i + 1, A3, c3, by rw [HXS.out, List.length_append, List.length_singleton], by simp only [e1], ⟨rfl, by have := HL.out; omega⟩, ⟨by rw [HXS.out]; exact O5.out⟩, C5⟩
      | zero =>
        have t1 : decide (L < (n : Int)) = false := decide_eq_false (by have := HL.out; omega)
        have ei : i = n := by have := HL.out; omega
        obtain ⟨m0, hm0⟩ : ∃ m0, (T0 n ls).length = m0 := ⟨_, rfl⟩
        have HM0 := Aside0.mk hm0
        have I3 := Aside0.mk (I2.out.below C.out)
        have CT := Aside0.mk (show Kd.C (Kd.int .i64) wr A2 m0 (iN (T0 n ls)) from by
          have h := (Kd.R_reads' R.out).2.2
          rw [ei] at h
          have : (iN ((List.range n).filter (tn ls))).length = m0 := by rw [iN_len, ← hm0]; rfl
          rw [this] at h
          exact h)
        have el : (iN ((List.range i).filter (tn ls))).length = m0 := by rw [ei, iN_len, ← hm0]; rfl
        rw [el]
        have C4 := Aside0.mk (below_step B2.out C.out)
        clear HL ei el R C hm0
        have hlen0 := (row_ok HX.out).2.2.2
        obtain ⟨nms1, hnms1⟩ : ∃ k, (nms n s ls).2.1 + 1 = k := ⟨_, rfl⟩
        have HNM := Aside0.mk (show nms1 ≤ m0 ∧ m0 < n from by have h1 := HM0.out; have h2 := T0_small n ls HN.out.n1; omega)
        have HN1 := Aside0.mk hnms1
        clear hlen0
        have hrl : (iN (rowL n s ls)).length = m0 := by rw [iN_len]; unfold rowL; rw [List.length_map]; exact HM0.out
        have HRL := Aside0.mk hrl
        clear hrl
        have AR := Aside0.mk (show ∀ (w5 : World) (A5 : Option Addr) (c5 : Nat), Kd.C (Kd.int .i64) w5 A5 m0 (iN (rowL n s ls)) → ∀ i, i < m0 → ∃ ad : Addr, A5 = some ad ∧ w5.cell? (ad.add i) = some (.int .i64 (row n s ls i : Int)) from fun w5 A5 c5 hC i hi => by
          rw [row_tab] at hC
          obtain ⟨ad2, h1, h2⟩ := Kd.at_int hC (i : Int) (by omega) (by omega)
          rw [Int.toNat_natCast, rd_nat, tabn_getD (by rw [HM0.out]; exact hi)] at h2
          exact ⟨ad2, h1, h2⟩)
        have hpos0 : 0 < m0 := by have := (T0_last HX.out).1; rw [HM0.out] at this; exact this
        have HPOS := Aside0.mk hpos0
        have hret : ∀ (T : List Nat) (g8 : Nat) (w0 w8 : World), T.length = m0 → Turns n ls T → T.Pairwise (slt n s) → Below w.heap.size w w0 → w0.heap.size ≤ g8 → Blk w8 g8 .i64 3 (iN (asL n s ls T)) → Below w0.heap.size w0 w8 →
            ∃ (g c : Nat) (sa : List Nat), Ending.returned (.slice (some ⟨g8, 0, none⟩) n n) = .returned (.slice (some ⟨g, 0, none⟩) n c) ∧ c = n ∧ w.heap.size ≤ g ∧ Blk w8 g .i64 3 (iN sa) ∧ IsSA n s sa ∧ Below w.heap.size w w8 :=
          fun T g8 w0 w8 _ hT hO hB hg hK hB2 => ⟨g8, n, asL n s ls T, rfl, rfl, Nat.le_trans hB.size hg, hK, asL_sa HX.out hT hO, below_step hB hB2⟩
        have HRET := Aside0.mk hret
        clear hret hpos0
        by_cases he : nms1 = m0
        · have t3 : ((nms1 : Int) == (m0 : Int)) = true := beq_iff_eq.2 (by omega)
          have t4 : (nms1 == m0) = true := beq_iff_eq.2 he
          have HE := Aside0.mk (show (nms n s ls).2.1 + 1 = (T0 n ls).length from by rw [HN1.out, HM0.out]; exact he)
          clear he
          go_wp2_with (first
            | (go_at_call 82; with_reducible refine (induce_at gx A c0 gl gz n m s ls _ A2 c2 m0 (T0 n ls) HM0.out I3.out HX.out HN.out.sm CT.out (T0_turns n ls)).mono ?_; rintro e w4 ⟨g4, rfl, hG, hK, hB⟩; have K4 := Aside0.mk hK; have I4 := Aside0.mk (I3.out.below hB); have CT4 := Aside0.mk (Kd.C_below CT.out hB); have B4 := Aside0.mk (below_step C4.out hB); clear hG hK hB I3 CT C4)
            | (go_at_call 81; with_reducible refine (names_at gx A c0 gl gz n m s ls _ g4 nms1 I4.out HX.out K4.out HN.out.nb HN1.out).mono ?_; rintro e w5 ⟨v5, rfl, hR, hB⟩; obtain ⟨A5, c5, e5⟩ := Kd.R_slice hR; rw [HRL.out] at e5; subst e5; have R5 := Aside0.mk (show Kd.C (Kd.int .i64) w5 A5 m0 (iN (rowL n s ls)) from by (have h := (Kd.R_reads' hR).2.2; rw [HRL.out] at h; exact h)); have I5 := Aside0.mk (I4.out.below hB); have CT5 := Aside0.mk (Kd.C_below CT4.out hB); have B5 := Aside0.mk (below_step B4.out hB); clear hR hB I4 CT4 K4 B4)
            | ((with_reducible refine gate_dst (N := 45) rfl ?_); refine make_blk rfl rfl m0 rfl rfl Tryd.underlying29 .i64 info3 (by decide) (by have := HN.out.nb; have := HNM.out; omega) ?_; intro go w6 G6 K6 B6))
          have K6' := Aside0.mk (show Blk w6 go .i64 3 (tabn m0 (fun b => (fO n s ls 0 b : Int))) from by have := K6.out; rw [tabn_zero] at this; exact (congrArg (Blk _ go .i64 3) (tabn_congr (fun j _ => by rw [fO_zero]; rfl))).mp this)
          clear K6
          obtain ⟨adR, hadR, _⟩ := AR.out w5 A5 c5 R5.out 0 HPOS.out
          obtain ⟨adT, hadT, _⟩ := c_cell CT5.out (i := 0) (by rw [HM0.out]; exact HPOS.out) HM0.out.symm
          subst hadR hadT
          go_loopg [52] m0 (fun q v52 w' => ∃ (L : Int) (i : Nat), v52 = .int .i64 L ∧ Aside0 (L = (i : Int) ∧ i + q = m0) ∧ Aside0 (Blk w' go .i64 3 (tabn m0 (fun b => (fO n s ls i b : Int)))) ∧ Aside0 (Below w5.heap.size w5 w'))
          case atStart => exact ⟨0, 0, rfl, ⟨rfl, by omega⟩, K6', B6⟩
          case round =>
            clear K6' B6
            obtain ⟨L, i, rfl, HL, K, C⟩ := hrel
            cases gk with
            | succ q =>
              obtain rfl : L = (i : Int) := HL.out.1
              have him : i < m0 := by have := HL.out; omega
              have t1 : decide ((i : Int) < (m0 : Int)) = true := decide_eq_true (by omega)
              have p1 : ((i : Int) < (m0 : Int)) = True := eq_true (by omega)
              have p2 : (i < m0) = True := eq_true him
              have e1 : wrap64 ((i : Int) + 1) = ((i + 1 : Nat) : Int) := by have := HN.out.nb; have := HNM.out; rw [w64 (by omega) (by omega)]; omega
              obtain ⟨_, h1, h2⟩ := AR.out w5 (some adR) c5 R5.out i him
              cases h1
              have k1 := (C.out.cell (World.block_lt_of_cell? w5 _ h2)).trans h2
              obtain ⟨_, h3, h4⟩ := c_cell CT5.out (i := i) (by rw [HM0.out]; exact him) HM0.out.symm
              cases h3
              have k2 := (C.out.cell (World.block_lt_of_cell? w5 _ h4)).trans h4
              have hrm := (row_ok HX.out).2.2.1 i (by rw [HM0.out]; exact him)
              rw [HE.out, HM0.out] at hrm
              have ho := (ord_one HX.out HE.out).2.2 i (by rw [HM0.out]; exact him)
              have hfs := fO_succ (n := n) (s := s) (ls := ls) i
              obtain ⟨r, hr⟩ : ∃ r, row n s ls i = r := ⟨_, rfl⟩
              obtain ⟨x, hx⟩ : ∃ x, (T0 n ls).getD i 0 = x := ⟨_, rfl⟩
              rw [hr] at k1 hrm ho hfs
              rw [hx] at k2 ho
              have p3 : ((r : Int) < (m0 : Int)) = True := eq_true (by omega)
              have p4 : (r < m0) = True := eq_true hrm
              have kf := K.out.free r
              have kg := K.out.cell r (by rw [tabn_length]; exact hrm)
              have HO := Aside0.mk (And.intro ho hfs)
              clear h2 h4 him hrm ho hfs hr hx
              go_wp2
              go_roundg q
              case measure => omega
              case rel =>
                refine ⟨((i + 1 : Nat) : Int), i + 1, by first | rfl | simp only [e1] | (rw [e1]), ⟨rfl, by have := HL.out; omega⟩, ⟨blk_step K.out (fun b hb => ?_)⟩, ⟨below_set C.out G6.out⟩⟩
                rw [HO.out.2 b]
                by_cases e : b = r
                · rw [if_pos e, if_pos e, e, List.getD_eq_getElem?_getD, HO.out.1]; rfl
                · rw [if_neg e, if_neg e]
            | zero =>
              have t1 : decide (L < (m0 : Int)) = false := decide_eq_false (by have := HL.out; omega)
              have hsl : (srt n s ls).length = m0 := by rw [srt_len HX.out, HM0.out]
              have K9 := Aside0.mk (show Blk wr go .i64 3 (iN (srt n s ls)) from by
                rw [iN_tab, hsl]
                refine (congrArg (Blk _ go .i64 3) (tabn_congr (fun b hb => ?_))).mp K.out
                have ei : i = (T0 n ls).length := by rw [HM0.out]; have := HL.out; omega
                rw [ei, fO_end HX.out HE.out (by rw [HM0.out]; exact hb)])
              have HSL := Aside0.mk hsl
              have C9 := Aside0.mk (below_step B5.out C.out)
              have I9 := Aside0.mk (I5.out.below C.out)
              have CK := Aside0.mk (show Kd.C (Kd.int .i64) wr (some ⟨go, 0, none⟩) m0 (iN (srt n s ls)) from by
                have h := blk_C K9.out (by rw [iN_len, hsl]; have := HN.out.nb; have := HNM.out; omega)
                rw [iN_len, hsl] at h; exact h)
              clear hsl HL K C K9
              go_wp2_with (first
                | (go_at_call 82; with_reducible refine (induce_at gx A c0 gl gz n m s ls _ (some ⟨go, 0, none⟩) m0 m0 (srt n s ls) HSL.out I9.out HX.out HN.out.sm CK.out (ord_one HX.out HE.out).1).mono ?_; rintro e w8 ⟨g8, rfl, hG, hK, hB⟩; have K8 := Aside0.mk (And.intro hG (And.intro hK hB)); clear hG hK hB))
              go_ret
              exact HRET.out (srt n s ls) g8 wr w8 HSL.out (ord_one HX.out HE.out).1 (ord_one HX.out HE.out).2.1 C9.out K8.out.1 K8.out.2.1 K8.out.2.2
        · have t3 : ((nms1 : Int) == (m0 : Int)) = false := beq_false_of_ne (by omega)
          have t4 : (nms1 == m0) = false := beq_false_of_ne he
          have HNum := Aside0.mk (show Num m0 nms1 (row n s ls) from by
            obtain ⟨r1, r2, r3, r4⟩ := row_ok HX.out
            rw [HM0.out] at r1 r2 r3 r4
            rw [HN1.out] at r3 r4
            have := HN.out.nb
            have := HNM.out
            exact ⟨HPOS.out, r1, r2, r3, by omega, by omega⟩)
          have hi0 := HIND.out
          rw [HM0.out] at hi0
          unfold IndOk at hi0
          have HI0 := Aside0.mk hi0
          clear hi0
          clear he
          go_wp2_with (first
            | (go_at_call 82; with_reducible refine (induce_at gx A c0 gl gz n m s ls _ A2 c2 m0 (T0 n ls) HM0.out I3.out HX.out HN.out.sm CT.out (T0_turns n ls)).mono ?_; rintro e w4 ⟨g4, rfl, hG, hK, hB⟩; have K4 := Aside0.mk hK; have I4 := Aside0.mk (I3.out.below hB); have CT4 := Aside0.mk (Kd.C_below CT.out hB); have B4 := Aside0.mk (below_step C4.out hB); clear hG hK hB I3 CT C4)
            | (go_at_call 81; with_reducible refine (names_at gx A c0 gl gz n m s ls _ g4 nms1 I4.out HX.out K4.out HN.out.nb HN1.out).mono ?_; rintro e w5 ⟨v5, rfl, hR, hB⟩; obtain ⟨A5, c5, e5⟩ := Kd.R_slice hR; rw [HRL.out] at e5; subst e5; have R5 := Aside0.mk (show Kd.C (Kd.int .i64) w5 A5 m0 (iN (rowL n s ls)) from by (have h := (Kd.R_reads' hR).2.2; rw [HRL.out] at h; exact h)); have I5 := Aside0.mk (I4.out.below hB); have CT5 := Aside0.mk (Kd.C_below CT4.out hB); have B5 := Aside0.mk (below_step B4.out hB); clear hR hB I4 CT4 K4 B4)
            | ((with_reducible refine gate_dst (N := 45) rfl ?_); refine make_blk rfl rfl m0 rfl rfl Tryd.underlying29 .i64 info3 (by decide) (by have := HN.out.nb; have := HNM.out; omega) ?_; intro go w6 G6 K6 B6)
            | (go_at_call 67; with_reducible refine (HI0.out nms1 (row n s ls) A5 c5 w6 HNum.out (by have h := Kd.C_below R5.out B6.out; rw [row_tab, HM0.out] at h; exact h)).mono ?_; rintro e w7 ⟨g7, c7, sa, rfl, hc7, hG, hK, hS, hB⟩; have G7 := Aside0.mk hG; have S7 := Aside0.mk hS; have K7 := Aside0.mk hK; have KO := Aside0.mk (show Blk w7 go .i64 3 (tabn m0 (fun b => if b < 0 then (((T0 n ls).getD (sa.getD b 0) 0 : Nat) : Int) else 0)) from by (have h := K6.out.below hB; rw [tabn_zero] at h; exact (congrArg (Blk _ go .i64 3) (tabn_congr (fun j _ => (if_neg (Nat.not_lt_zero j)).symm))).mp h)); have B7 := Aside0.mk (below_step B6.out hB); have NE := Aside0.mk (show go ≠ g7 from by have := K6.out.lt; omega); clear hc7 hG hK hS hB K6 B6))
          obtain ⟨adT, hadT, _⟩ := c_cell CT5.out (i := 0) (by rw [HM0.out]; exact HPOS.out) HM0.out.symm
          subst hadT
          clear G7
          go_loopg [69] m0 (fun q v69 w' => ∃ (L : Int) (i : Nat), v69 = .int .i64 L ∧ Aside0 (L = (i : Int) ∧ i + q = m0) ∧ Aside0 (Blk w' go .i64 3 (tabn m0 (fun b => if b < i then (((T0 n ls).getD (sa.getD b 0) 0 : Nat) : Int) else 0))) ∧ Aside0 (Blk w' g7 .i64 3 (iN sa)) ∧ Aside0 (Below w5.heap.size w5 w'))
          case atStart => exact ⟨0, 0, rfl, ⟨rfl, by omega⟩, KO, K7, B7⟩
          case round =>
            clear KO K7 B7
            obtain ⟨L, i, rfl, HL, K, KS, C⟩ := hrel
            cases gk with
            | succ q =>
              obtain rfl : L = (i : Int) := HL.out.1
              have him : i < m0 := by have := HL.out; omega
              have t1 : decide ((i : Int) < (m0 : Int)) = true := decide_eq_true (by omega)
              have p1 : ((i : Int) < (m0 : Int)) = True := eq_true (by omega)
              have p2 : (i < m0) = True := eq_true him
              have e1 : wrap64 ((i : Int) + 1) = ((i + 1 : Nat) : Int) := by have := HN.out.nb; have := HNM.out; rw [w64 (by omega) (by omega)]; omega
              have hsl := S7.out.p.len
              have k1 := KS.out.cell i (by rw [iN_len, hsl]; exact him)
              rw [iN_getD] at k1
              have hym := S7.out.p.lt (sa.getD i 0) (by rw [List.getD_eq_getElem?_getD, List.getElem?_eq_getElem (by omega)]; exact List.getElem_mem _)
              obtain ⟨y, hy⟩ : ∃ y, sa.getD i 0 = y := ⟨_, rfl⟩
              rw [hy] at k1 hym
              have p3 : ((y : Int) < (m0 : Int)) = True := eq_true (by omega)
              have p4 : (y < m0) = True := eq_true hym
              obtain ⟨_, h3, h4⟩ := c_cell CT5.out (i := y) (by rw [HM0.out]; exact hym) HM0.out.symm
              cases h3
              have k2 := (C.out.cell (World.block_lt_of_cell? w5 _ h4)).trans h4
              obtain ⟨x, hx⟩ : ∃ x, (T0 n ls).getD y 0 = x := ⟨_, rfl⟩
              rw [hx] at k2
              have kf := K.out.free i
              have kg := K.out.cell i (by rw [tabn_length]; exact him)
              have HO := Aside0.mk (And.intro hy hx)
              clear h4 him hym hy hx hsl
              go_wp2
              go_roundg q
              case measure => omega
              case rel =>
                refine ⟨((i + 1 : Nat) : Int), i + 1, by first | rfl | simp only [e1] | (rw [e1]), ⟨rfl, by have := HL.out; omega⟩, ⟨blk_step K.out (fun b hb => ?_)⟩, ⟨KS.out.far NE.out.symm _⟩, ⟨below_set C.out G6.out⟩⟩
                by_cases e : b = i
                · rw [if_pos e, if_pos (by omega), e, HO.out.1, HO.out.2]
                · rw [if_neg e]
                  by_cases h2 : b < i
                  · rw [if_pos h2, if_pos (by omega)]
                  · rw [if_neg h2, if_neg (by omega)]
            | zero =>
              have t1 : decide (L < (m0 : Int)) = false := decide_eq_false (by have := HL.out; omega)
              have hos := ord_many HX.out (sa := sa) (by rw [HM0.out]; exact S7.out)
              obtain ⟨U, hU⟩ : ∃ U, sa.map (fun i => (T0 n ls).getD i 0) = U := ⟨_, rfl⟩
              have hsl : U.length = m0 := by rw [← hU, List.length_map, S7.out.p.len]
              have K9 := Aside0.mk (show Blk wr go .i64 3 (iN U) from by
                rw [iN_tab, hsl]
                refine (congrArg (Blk _ go .i64 3) (tabn_congr (fun b hb => ?_))).mp K.out
                rw [if_pos (by have := HL.out; omega), ← hU, map_getD _ _ _ (by rw [S7.out.p.len]; exact hb)])
              rw [hU] at hos
              have HOS := Aside0.mk hos
              have HSL := Aside0.mk hsl
              have C9 := Aside0.mk (below_step B5.out C.out)
              have I9 := Aside0.mk (I5.out.below C.out)
              have CK := Aside0.mk (show Kd.C (Kd.int .i64) wr (some ⟨go, 0, none⟩) m0 (iN U) from by
                have h := blk_C K9.out (by rw [iN_len, hsl]; have := HN.out.nb; have := HNM.out; omega)
                rw [iN_len, hsl] at h; exact h)
              clear hsl hos hU HL K C K9 KS
              go_wp2_with (first
                | (go_at_call 82; with_reducible refine (induce_at gx A c0 gl gz n m s ls _ (some ⟨go, 0, none⟩) m0 m0 U HSL.out I9.out HX.out HN.out.sm CK.out HOS.out.1).mono ?_; rintro e w8 ⟨g8, rfl, hG, hK, hB⟩; have K8 := Aside0.mk (And.intro hG (And.intro hK hB)); clear hG hK hB))
              go_ret
              exact HRET.out U g8 wr w8 HSL.out HOS.out.1 HOS.out.2 C9.out K8.out.1 K8.out.2.1 K8.out.2.2
end Go.Proofs.YtdifgiceallpiaaDoor.Hd
