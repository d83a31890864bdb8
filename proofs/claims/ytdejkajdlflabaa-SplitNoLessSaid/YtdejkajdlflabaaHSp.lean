/- split's meter, walked by hand. -/
import Derived.Test.YtdejkajdlflabaaSpDef
import Derived.Test.YtdejkajdlflabaaHw
import Derived.Test.YtdejkajdlflabaaRec
import Derived.Test.YtdejkajdlflabaaPx2
import Derived.BigQuiet
import Derived.StillTailTactics
set_option linter.unusedVariables false
set_option linter.unusedSimpArgs false
set_option linter.unusedSectionVars false
namespace Go.Proofs.Ytdejkajdlflabaa.Hd
open Go Go.RowKit Go.Deep Go.Proofs.YtdejkajdlflabaaW.PrintWords Go.Proofs.YtdejkajdlflabaaW.PrintLast Go.Proofs.YtdejkajdlflabaaW.PrintMore Go.Proofs.Ytdejkajdlflabaa.Hw Go.Proofs.Ytdejkajdlflabaa.Com Go.Proofs.Ytdejkajdlflabaa.Cn Go.Proofs.Ytdejkajdlflabaa.P Go.Proofs.Ytdejkajdlflabaa.Pure
attribute [local go_sem] max2_int min2_int max_two min_two max_three min_three max_four min_four
attribute [local irreducible] W spd lgC
theorem ev_get {α : Type} {f : Nat → Option α} {r : α} (h : Ev f r) : ∃ k, f k = some r := by
  obtain ⟨k, hk⟩ := h
  exact ⟨k, hk k (Nat.le_refl _)⟩
theorem weighed_ev (n : Nat) (hn : n ≤ 67108865) : Ev (fun k => split_weighed.f k (n : Int)) (W n : Int) := by
  by_cases h : n = 0
  · subst h
    refine Ev.congr (f := fun _ => some 0) (fun k => ?_) (by rw [show (W 0 : Int) = 0 from by with_unfolding_all rfl]; exact Ev.now _)
    unfold split_weighed.f
    exact if_pos rfl
  · have hl := LG_p (n : Int)
    rw [LG_C n (by omega) (by omega)] at hl
    have hb := lgC_bd n (by omega) (by omega)
    have hm := Nat.mul_le_mul hn (Nat.le_of_lt hb)
    have e : wrap64 ((n : Int) * (lgC n : Int)) = (W n : Int) := by
      rw [show W n = n * lgC n from by with_unfolding_all rfl, ← Int.natCast_mul]
      exact w64 (by omega) (by omega)
    refine Ev.congr (f := fun k => (ilog_Log.f k (n : Int)).bind fun bt => some (wrap64 ((n : Int) * bt.1))) (fun k => ?_) (Ev.bind (f := fun _ bt => some (wrap64 ((n : Int) * bt.1))) hl (by rw [e]; exact Ev.now _))
    unfold split_weighed.f
    rw [if_neg (by omega)]
theorem mt_len (bs : List Nat) : (mtr bs).length = 258 := tabn_length _ _
theorem mt_cnt {W' : World} {g t : Nat} {bs : List Nat} (h : Blk W' g .i64 t (mtr bs)) {c : Nat} (hc : c < 256) : W'.cell? ⟨g, c, none⟩ = some (.int .i64 (bs.count c : Int)) := by
  have := h.cell c (by rw [mt_len]; omega)
  rw [this, show (mtr bs).getD c 0 = (bs.count c : Int) from by unfold mtr; rw [tabn_getD (by omega), if_pos hc]]
theorem mt_all {W' : World} {g t : Nat} {bs : List Nat} (h : Blk W' g .i64 t (mtr bs)) : W'.cell? ⟨g, 256, none⟩ = some (.int .i64 (bs.length : Int)) := by
  have := h.cell 256 (by rw [mt_len]; omega)
  rw [this, show (mtr bs).getD 256 0 = (bs.length : Int) from by unfold mtr; rw [tabn_getD (by omega), if_neg (by omega), if_pos rfl]]
theorem mt_spd {W' : World} {g t : Nat} {bs : List Nat} (h : Blk W' g .i64 t (mtr bs)) : W'.cell? ⟨g, 257, none⟩ = some (.int .i64 (spd bs : Int)) := by
  have := h.cell 257 (by rw [mt_len]; omega)
  rw [this, show (mtr bs).getD 257 0 = (spd bs : Int) from by unfold mtr; rw [tabn_getD (by omega), if_neg (by omega), if_neg (by omega)]]
theorem mt_cnt9 {W' : World} {g t : Nat} {bs : List Nat} {v : Int} (h : Blk W' g .i64 t ((mtr bs).set 257 v)) {c : Nat} (hc : c < 256) : W'.cell? ⟨g, c, none⟩ = some (.int .i64 (bs.count c : Int)) := by
  have := h.cell c (by rw [List.length_set, mt_len]; omega)
  rw [this, List.getD_eq_getElem?_getD, List.getElem?_set_ne (by omega), ← List.getD_eq_getElem?_getD, show (mtr bs).getD c 0 = (bs.count c : Int) from by unfold mtr; rw [tabn_getD (by omega), if_pos hc]]
theorem mt_all10 {W' : World} {g t : Nat} {bs : List Nat} {v x : Int} {c : Nat} (h : Blk W' g .i64 t (((mtr bs).set 257 v).set c x)) (hc : c < 256) : W'.cell? ⟨g, 256, none⟩ = some (.int .i64 (bs.length : Int)) := by
  have := h.cell 256 (by rw [List.length_set, List.length_set, mt_len]; omega)
  rw [this, List.getD_eq_getElem?_getD, List.getElem?_set_ne (by omega), List.getElem?_set_ne (by omega), ← List.getD_eq_getElem?_getD, show (mtr bs).getD 256 0 = (bs.length : Int) from by unfold mtr; rw [tabn_getD (by omega), if_neg (by omega), if_pos rfl]]
theorem mt_step (bs : List Nat) {c : Nat} (hc : c < 256) : (((mtr bs).set 257 (spd (bs ++ [c]) : Int)).set c ((bs.count c + 1 : Nat) : Int)).set 256 ((bs.length + 1 : Nat) : Int) = mtr (bs ++ [c]) := by
  unfold mtr
  rw [tabn_set, tabn_set, tabn_set]
  refine tabn_congr (fun j hj => ?_)
  by_cases h1 : j = 256
  · rw [if_pos h1, if_neg (by omega), if_pos h1, List.length_append, List.length_singleton]
  · rw [if_neg h1]
    by_cases h2 : j = c
    · rw [if_pos h2, h2, if_pos hc, List.count_append, List.count_singleton_self]
    · rw [if_neg h2]
      by_cases h3 : j = 257
      · rw [if_pos h3, if_neg (by omega), if_neg h1]
      · rw [if_neg h3, if_pos (by omega), if_pos (by omega), List.count_append, List.count_singleton]
        have : (c == j) = false := by simpa using fun e => h2 e.symm
        rw [this]; simp
theorem spd_bd (bs : List Nat) (h : ∀ x ∈ bs, x < 256) (hl : bs.length ≤ 67108864) : spd bs ≤ 34359738368 := Nat.le_trans (spd_le bs h (by omega)) (W_bd hl)
theorem add_w {bs : List Nat} {c n : Nat} (hc : c < 256) (hn : bs.count c = n) (hb : ∀ x ∈ bs, x < 256) (hl : bs.length < 67108864) : wrap64 ((spd bs : Int) + wrap64 ((W (n + 1) : Int) - (W n : Int))) = (spd (bs ++ [c]) : Int) := by
  have h1 := spd_add bs hc
  rw [hn] at h1
  have h2 := spd_bd bs hb (by omega)
  have hle : n ≤ bs.length := by rw [← hn]; exact List.count_le_length
  have h3 := W_bd (n := n + 1) (by omega)
  have h4 := W_bd (n := n) (by omega)
  rw [w64 (x := (W (n + 1) : Int) - (W n : Int)) (by omega) (by omega), w64 (by omega) (by omega)]
  omega
set_option maxHeartbeats 8000000 in
set_option maxRecDepth 100000 in
theorem add_calls (g c : Nat) (bs : List Nat) (w : World) (hK : Blk w g .i64 43 (mtr bs)) (hc : c < 256) (hb : ∀ x ∈ bs, x < 256) (hl : bs.length < 67108864) :
    Calls Try.prog 15 #[.pointer (some ⟨g, 0, none⟩), .int .u8 (c : Int)] w fun e w' => e = .returned (.tuple #[]) ∧ Blk w' g .i64 43 (mtr (bs ++ [c])) ∧ ∃ w1, Below w.heap.size w w1 ∧ w1.grownBy w' (some g) := by
  obtain ⟨n, hn⟩ : ∃ n, bs.count c = n := ⟨_, rfl⟩
  have hnl : n ≤ bs.length := by rw [← hn]; exact List.count_le_length
  obtain ⟨k1, hk1⟩ := ev_get (weighed_ev (n + 1) (by omega))
  obtain ⟨k0, hk0⟩ := ev_get (weighed_ev n (by omega))
  have H1 := Aside0.mk hk1
  have H0 := Aside0.mk hk0
  have HW := Aside0.mk (add_w hc hn hb hl)
  have EW := Aside0.mk (show wrap64 ((n : Int) + 1) = ((n + 1 : Nat) : Int) by rw [w64 (by omega) (by omega)]; omega)
  have EL := Aside0.mk (show wrap64 ((bs.length : Int) + 1) = ((bs.length + 1 : Nat) : Int) by rw [w64 (by omega) (by omega)]; omega)
  have HN := Aside0.mk hn
  have HC := Aside0.mk hc
  have KW := Aside0.mk hK
  have hcc := (mt_cnt hK hc).trans (by rw [hn])
  have p1 : (0 ≤ (c : Int)) = True := eq_true (by omega)
  have p2 : ((c : Int) < 256) = True := eq_true (by omega)
  have p3 : (c < 256) = True := eq_true hc
  clear hK hk1 hk0 hn hnl hb hl hc
  go_enter Try.func15, Try.ntmps15
  go_wp2
  refine start_ (n := 14) (S := fun w' => w'.cell? ⟨g, 257, none⟩ = some (.int .i64 (spd bs : Int))) (ds := [13]) #[false, false, false, false, false, false, false, false, false, false, false, false, false, false] (by kernel_rfl) rfl rfl ((mt_spd (KW.out.drew))) (fun hHeld => ?_)
  refine pure_ (i := 0) (N := some 11) (v := ?_) (a' := ?_) #[true, false, false, false, false, false, false, false, false, false, false, false, false, false] rfl rfl (by kernel_rfl) (fun _ _ _ h => h) (Or.inl ⟨by rfl, ?_⟩) ?_ ?_
  rotate_left
  · intro w'
    go_simp
    with_reducible rfl
  rotate_left
  · simp only [Act.put, List.setIfInBounds_toArray, List.set_cons_zero, List.set_cons_succ, i64_w, i32_w]
    rfl
  refine pure_ (i := 1) (N := some 12) (v := ?_) (a' := ?_) #[true, true, false, false, false, false, false, false, false, false, false, false, false, false] rfl rfl (by kernel_rfl) (fun _ _ _ h => h) (Or.inl ⟨by rfl, ?_⟩) ?_ ?_
  rotate_left
  · intro w'
    go_simp
    with_reducible rfl
  rotate_left
  · simp only [Act.put, List.setIfInBounds_toArray, List.set_cons_zero, List.set_cons_succ, i64_w, i32_w]
    rfl
  refine pure_ (i := 2) (N := some 13) (v := ?_) (a' := ?_) #[true, true, true, false, false, false, false, false, false, false, false, false, false, false] rfl rfl (by kernel_rfl) (fun _ _ _ h => h) (Or.inl ⟨by rfl, ?_⟩) ?_ ?_
  rotate_left
  · intro w'
    go_simp
    with_reducible rfl
  rotate_left
  · simp only [Act.put, List.setIfInBounds_toArray, List.set_cons_zero, List.set_cons_succ, i64_w, i32_w]
    rfl
  refine pure_ (i := 4) (N := some 15) (v := ?_) (a' := ?_) #[true, true, true, false, true, false, false, false, false, false, false, false, false, false] rfl rfl (by kernel_rfl) (fun _ _ _ h => h) (Or.inl ⟨by rfl, ?_⟩) ?_ ?_
  rotate_left
  · intro w'
    go_simp
    with_reducible rfl
  rotate_left
  · simp only [Act.put, List.setIfInBounds_toArray, List.set_cons_zero, List.set_cons_succ, i64_w, i32_w]
    rfl
  refine pure_ (i := 5) (N := some 16) (v := ?_) (a' := ?_) #[true, true, true, false, true, true, false, false, false, false, false, false, false, false] rfl rfl (by kernel_rfl) (fun _ _ _ h => h) (Or.inl ⟨by rfl, ?_⟩) ?_ ?_
  rotate_left
  · intro w'
    go_simp
    with_reducible rfl
  rotate_left
  · simp only [Act.put, List.setIfInBounds_toArray, List.set_cons_zero, List.set_cons_succ, i64_w, i32_w]
    rfl
  refine pure_ (i := 7) (N := some 18) (v := ?_) (a' := ?_) #[true, true, true, false, true, true, false, true, false, false, false, false, false, false] rfl rfl (by kernel_rfl) (fun _ _ _ h => h) (Or.inl ⟨by rfl, ?_⟩) ?_ ?_
  rotate_left
  · intro w'
    go_simp
    with_reducible rfl
  rotate_left
  · simp only [Act.put, List.setIfInBounds_toArray, List.set_cons_zero, List.set_cons_succ, i64_w, i32_w]
    rfl
  refine take_ (i := 3) (N := some 14) (v := ?_) (a' := ?_) #[true, true, true, true, true, true, false, true, false, false, false, false, false, false] rfl rfl (by kernel_rfl) (fun _ _ _ h => h) (Or.inl ⟨by rfl, ?_⟩) hHeld ?_ ?_
  rotate_left
  · intro w' s0
    go_simp
    with_reducible rfl
  rotate_left
  · simp only [Act.put, List.setIfInBounds_toArray, List.set_cons_zero, List.set_cons_succ, i64_w, i32_w]
    rfl
  refine one_ (i := 6) (N := some 17) #[true, true, true, true, true, true, true, true, false, false, false, false, false, false] rfl rfl (by kernel_rfl) (by decide) (fun K hK => ?_)
  refine goes_ Try.func18 (by kernel_rfl) rfl #[.int .i64 (wrap64 ((n : Int) + 1))] (by rfl) rfl rfl (by simp only [List.map_toArray, List.map_cons, List.map_nil]; rfl) ?_
  with_reducible refine (split_weighed.calls k1 _ _ w.drew (by rw [EW.out]; exact H1.out)).mono ?_
  rintro e w6 ⟨rfl, hd⟩
  refine ⟨_, rfl, ?_⟩
  have K6 := Aside0.mk (Blk.below (KW.out.drew) hd.below)
  have B6 := Aside0.mk (below_step (below_drew (Below.refl w.heap.size w)) hd.below)
  clear hd
  refine hK.out _ _ ((mt_spd K6.out)) (fun hHeld => ?_)
  clear hK K
  refine norm_ (a' := ?_) ?_ ?_
  rotate_left
  · show Act.put _ (some 17) _ = _
    simp only [Act.put, List.setIfInBounds_toArray, List.set_cons_zero, List.set_cons_succ, i64_w, i32_w]
    rfl
  refine one_ (i := 8) (N := some 19) #[true, true, true, true, true, true, true, true, true, false, false, false, false, false] rfl rfl (by kernel_rfl) (by decide) (fun K hK => ?_)
  refine goes_ Try.func18 (by kernel_rfl) rfl #[.int .i64 (n : Int)] (by rfl) rfl rfl (by simp only [List.map_toArray, List.map_cons, List.map_nil]; rfl) ?_
  with_reducible refine (split_weighed.calls k0 _ _ w6 H0.out).mono ?_
  rintro e w8 ⟨rfl, hd⟩
  refine ⟨_, rfl, ?_⟩
  have K8 := Aside0.mk (Blk.below K6.out hd.below)
  have B8 := Aside0.mk (below_step B6.out hd.below)
  clear hd
  refine hK.out _ _ ((mt_spd K8.out)) (fun hHeld => ?_)
  clear hK K
  refine norm_ (a' := ?_) ?_ ?_
  rotate_left
  · show Act.put _ (some 19) _ = _
    simp only [Act.put, List.setIfInBounds_toArray, List.set_cons_zero, List.set_cons_succ, i64_w, i32_w]
    rfl
  refine pure_ (i := 9) (N := some 20) (v := ?_) (a' := ?_) #[true, true, true, true, true, true, true, true, true, true, false, false, false, false] rfl rfl (by kernel_rfl) (fun _ _ _ h => h) (Or.inl ⟨by rfl, ?_⟩) ?_ ?_
  rotate_left
  · intro w'
    go_simp
    with_reducible rfl
  rotate_left
  · simp only [Act.put, List.setIfInBounds_toArray, List.set_cons_zero, List.set_cons_succ, i64_w, i32_w]
    rfl
  refine pure_ (i := 10) (N := some 21) (v := ?_) (a' := ?_) #[true, true, true, true, true, true, true, true, true, true, true, false, false, false] rfl rfl (by kernel_rfl) (fun _ _ _ h => h) (Or.inl ⟨by rfl, ?_⟩) ?_ ?_
  rotate_left
  · intro w'
    go_simp
    with_reducible rfl
  rotate_left
  · simp only [Act.put, List.setIfInBounds_toArray, List.set_cons_zero, List.set_cons_succ, i64_w, i32_w]
    rfl
  refine pure_ (i := 11) (N := some 22) (v := ?_) (a' := ?_) #[true, true, true, true, true, true, true, true, true, true, true, true, false, false] rfl rfl (by kernel_rfl) (fun _ _ _ h => h) (Or.inl ⟨by rfl, ?_⟩) ?_ ?_
  rotate_left
  · intro w'
    go_simp
    with_reducible rfl
  rotate_left
  · simp only [Act.put, List.setIfInBounds_toArray, List.set_cons_zero, List.set_cons_succ, i64_w, i32_w]
    rfl
  refine pure_ (i := 12) (N := some 23) (v := ?_) (a' := ?_) #[true, true, true, true, true, true, true, true, true, true, true, true, true, false] rfl rfl (by kernel_rfl) (fun _ _ _ h => h) (Or.inl ⟨by rfl, ?_⟩) ?_ ?_
  rotate_left
  · intro w'
    go_simp
    with_reducible rfl
  rotate_left
  · simp only [Act.put, List.setIfInBounds_toArray, List.set_cons_zero, List.set_cons_succ, i64_w, i32_w]
    rfl
  refine last_ (i := 13) (N := none) #[true, true, true, true, true, true, true, true, true, true, true, true, true, true] rfl rfl (by kernel_rfl) (by decide) (fun K hK => ?_)
  have hcs := mt_spd K8.out
  have hfs := K8.out.free 257
  refine skip_ (w1 := ?_) (by rfl) rfl ?_ ?_
  rotate_left
  · go_simp
    rfl
  refine hK.out _ _ ?_
  clear hK K
  refine done_ (by kernel_rfl) ?_
  clear hHeld hcs hfs hcc
  have K9 := Aside0.mk (K8.out.put 257 (spd (bs ++ [c]) : Int))
  have G9 := Aside0.mk (grown_set (show w8.grownBy w8 (some g) from ⟨rfl, rfl, rfl, Nat.le_refl _, fun _ _ _ => rfl⟩) 257 (.int .i64 (spd (bs ++ [c]) : Int)))
  rw [HW.out]
  obtain ⟨w9, hw9⟩ : ∃ w9, w8.setCell ⟨g, 257, none⟩ (.int .i64 (spd (bs ++ [c]) : Int)) = w9 := ⟨_, rfl⟩
  rw [hw9] at K9 G9
  rw [hw9]
  clear hw9
  have hcc := (mt_cnt9 K9.out HC.out).trans (by rw [HN.out])
  have hcf := K9.out.free c
  have ew1 := EW.out
  have ew2 : IntKind.i64.wrap ((n : Int) + 1) = (n : Int) + 1 := by rw [i64_w, ew1]; rfl
  have ew3 : wrap64 ((n : Int) + 1) = (n : Int) + 1 := by rw [ew1]; rfl
  have el1 : IntKind.i64.wrap ((bs.length : Int) + 1) = (bs.length : Int) + 1 := by rw [i64_w, EL.out]; rfl
  have el2 : wrap64 ((bs.length : Int) + 1) = (bs.length : Int) + 1 := by rw [EL.out]; rfl
  clear ew1
  have K10 := Aside0.mk (K9.out.put c ((n : Int) + 1))
  have hall := mt_all10 K10.out HC.out
  have half := K10.out.free 256
  go_wp2
  go_still_tail 10, (by kernel_rfl)
  change wpList _ _ _ _ _ w9.drew
  go_wp2
  first | go_end0 | ((try simp only [Exit.inBlock, Exit.then]); refine bodyPost_ret (results_none rfl _ _ _) rfl ?_)
  have K11 := (K10.out.drew).put 256 ((bs.length : Int) + 1)
  have G10 := grown_set G9.out c (.int .i64 ((n : Int) + 1))
  have G11 := grown_set (gr_step G10 (show (w9.setCell ⟨g, c, none⟩ (.int .i64 ((n : Int) + 1))).grownBy (w9.setCell ⟨g, c, none⟩ (.int .i64 ((n : Int) + 1))).drew (some g) from ⟨rfl, rfl, rfl, Nat.le_refl _, fun _ _ _ => rfl⟩)) 256 (.int .i64 ((bs.length : Int) + 1))
  have hm := mt_step bs HC.out
  rw [HN.out, Int.natCast_add, Int.natCast_add] at hm
  refine ⟨rfl, ?_, w8, B8.out, G11⟩
  rw [← hm]
  exact K11
end Go.Proofs.Ytdejkajdlflabaa.Hd
/- split's needs and Cost, walked by hand. -/
namespace Go.Proofs.Ytdejkajdlflabaa.Hd
open Go Go.RowKit Go.Deep Go.Proofs.YtdejkajdlflabaaW.PrintWords Go.Proofs.YtdejkajdlflabaaW.PrintLast Go.Proofs.YtdejkajdlflabaaW.PrintMore Go.Proofs.Ytdejkajdlflabaa.Hw Go.Proofs.Ytdejkajdlflabaa.Com Go.Proofs.Ytdejkajdlflabaa.Cn Go.Proofs.Ytdejkajdlflabaa.P Go.Proofs.Ytdejkajdlflabaa.Pure
attribute [local go_sem] max2_int min2_int max_two min_two max_three min_three max_four min_four
attribute [local irreducible] W spd lgC
set_option maxHeartbeats 8000000 in
set_option maxRecDepth 100000 in
theorem needs_calls (g : Nat) (bs : List Nat) (w : World) (hK : Blk w g .i64 43 (mtr bs)) (hb : ∀ x ∈ bs, x < 256) (hl : bs.length ≤ 67108864) :
    Calls Try.prog 16 #[.pointer (some ⟨g, 0, none⟩)] w fun e w' => e = .returned (.int .i64 ((W bs.length : Int) - (spd bs : Int))) ∧ Below w.heap.size w w' := by
  obtain ⟨n, hn⟩ : ∃ n, bs.length = n := ⟨_, rfl⟩
  obtain ⟨k0, hk0⟩ := ev_get (weighed_ev n (by omega))
  have H0 := Aside0.mk hk0
  have h1 := spd_le bs hb (by omega)
  have h2 := W_bd (n := bs.length) hl
  rw [hn] at h1 h2
  rw [hn]
  have HW := Aside0.mk (show wrap64 ((W n : Int) - (spd bs : Int)) = (W n : Int) - (spd bs : Int) from w64 (by omega) (by omega))
  have HN := Aside0.mk hn
  have KW := Aside0.mk hK
  clear hK hk0 hn hb hl h1 h2
  go_enter Try.func16, Try.ntmps16
  go_wp2
  refine start_ (n := 11) (S := fun w' => w'.cell? ⟨g, 256, none⟩ = some (.int .i64 (n : Int)) ∧ w'.cell? ⟨g, 257, none⟩ = some (.int .i64 (spd bs : Int))) (ds := []) #[false, false, false, false, false, false, false, false, false, false, false] (by kernel_rfl) rfl rfl ⟨((mt_all (KW.out.drew)).trans (by rw [HN.out])), (mt_spd (KW.out.drew))⟩ (fun hHeld => ?_)
  refine pure_ (i := 0) (N := some 3) (v := ?_) (a' := ?_) #[true, false, false, false, false, false, false, false, false, false, false] rfl rfl (by kernel_rfl) (fun _ _ _ h => h) (Or.inl ⟨by rfl, ?_⟩) ?_ ?_
  rotate_left
  · intro w'
    go_simp
    with_reducible rfl
  rotate_left
  · simp only [Act.put, List.setIfInBounds_toArray, List.set_cons_zero, List.set_cons_succ, i64_w, i32_w]
    rfl
  refine pure_ (i := 1) (N := some 4) (v := ?_) (a' := ?_) #[true, true, false, false, false, false, false, false, false, false, false] rfl rfl (by kernel_rfl) (fun _ _ _ h => h) (Or.inl ⟨by rfl, ?_⟩) ?_ ?_
  rotate_left
  · intro w'
    go_simp
    with_reducible rfl
  rotate_left
  · simp only [Act.put, List.setIfInBounds_toArray, List.set_cons_zero, List.set_cons_succ, i64_w, i32_w]
    rfl
  refine pure_ (i := 2) (N := some 5) (v := ?_) (a' := ?_) #[true, true, true, false, false, false, false, false, false, false, false] rfl rfl (by kernel_rfl) (fun _ _ _ h => h) (Or.inl ⟨by rfl, ?_⟩) ?_ ?_
  rotate_left
  · intro w'
    go_simp
    with_reducible rfl
  rotate_left
  · simp only [Act.put, List.setIfInBounds_toArray, List.set_cons_zero, List.set_cons_succ, i64_w, i32_w]
    rfl
  refine pure_ (i := 5) (N := some 8) (v := ?_) (a' := ?_) #[true, true, true, false, false, true, false, false, false, false, false] rfl rfl (by kernel_rfl) (fun _ _ _ h => h) (Or.inl ⟨by rfl, ?_⟩) ?_ ?_
  rotate_left
  · intro w'
    go_simp
    with_reducible rfl
  rotate_left
  · simp only [Act.put, List.setIfInBounds_toArray, List.set_cons_zero, List.set_cons_succ, i64_w, i32_w]
    rfl
  refine pure_ (i := 6) (N := some 9) (v := ?_) (a' := ?_) #[true, true, true, false, false, true, true, false, false, false, false] rfl rfl (by kernel_rfl) (fun _ _ _ h => h) (Or.inl ⟨by rfl, ?_⟩) ?_ ?_
  rotate_left
  · intro w'
    go_simp
    with_reducible rfl
  rotate_left
  · simp only [Act.put, List.setIfInBounds_toArray, List.set_cons_zero, List.set_cons_succ, i64_w, i32_w]
    rfl
  refine pure_ (i := 7) (N := some 10) (v := ?_) (a' := ?_) #[true, true, true, false, false, true, true, true, false, false, false] rfl rfl (by kernel_rfl) (fun _ _ _ h => h) (Or.inl ⟨by rfl, ?_⟩) ?_ ?_
  rotate_left
  · intro w'
    go_simp
    with_reducible rfl
  rotate_left
  · simp only [Act.put, List.setIfInBounds_toArray, List.set_cons_zero, List.set_cons_succ, i64_w, i32_w]
    rfl
  refine take_ (i := 3) (N := some 6) (v := ?_) (a' := ?_) #[true, true, true, true, false, true, true, true, false, false, false] rfl rfl (by kernel_rfl) (fun _ _ _ h => h) (Or.inl ⟨by rfl, ?_⟩) hHeld ?_ ?_
  rotate_left
  · rintro w' ⟨s0, s1⟩
    go_simp
    with_reducible rfl
  rotate_left
  · simp only [Act.put, List.setIfInBounds_toArray, List.set_cons_zero, List.set_cons_succ, i64_w, i32_w]
    rfl
  refine take_ (i := 8) (N := some 11) (v := ?_) (a' := ?_) #[true, true, true, true, false, true, true, true, true, false, false] rfl rfl (by kernel_rfl) (fun _ _ _ h => h) (Or.inl ⟨by rfl, ?_⟩) hHeld ?_ ?_
  rotate_left
  · rintro w' ⟨s0, s1⟩
    go_simp
    with_reducible rfl
  rotate_left
  · simp only [Act.put, List.setIfInBounds_toArray, List.set_cons_zero, List.set_cons_succ, i64_w, i32_w]
    rfl
  refine one_ (i := 4) (N := some 7) #[true, true, true, true, true, true, true, true, true, false, false] rfl rfl (by kernel_rfl) (by decide) (fun K hK => ?_)
  refine goes_ Try.func18 (by kernel_rfl) rfl #[.int .i64 (n : Int)] (by rfl) rfl rfl (by simp only [List.map_toArray, List.map_cons, List.map_nil]; rfl) ?_
  with_reducible refine (split_weighed.calls k0 _ _ w.drew H0.out).mono ?_
  rintro e w6 ⟨rfl, hd⟩
  refine ⟨_, rfl, ?_⟩
  have K6 := Aside0.mk (Blk.below (KW.out.drew) hd.below)
  have B6 := Aside0.mk (below_step (below_drew (Below.refl w.heap.size w)) hd.below)
  clear hd
  refine hK.out _ _ ⟨((mt_all K6.out).trans (by rw [HN.out])), (mt_spd K6.out)⟩ (fun hHeld => ?_)
  clear hK K
  refine norm_ (a' := ?_) ?_ ?_
  rotate_left
  · show Act.put _ (some 7) _ = _
    simp only [Act.put, List.setIfInBounds_toArray, List.set_cons_zero, List.set_cons_succ, i64_w, i32_w]
    rfl
  refine pure_ (i := 9) (N := some 12) (v := ?_) (a' := ?_) #[true, true, true, true, true, true, true, true, true, true, false] rfl rfl (by kernel_rfl) (fun _ _ _ h => h) (Or.inl ⟨by rfl, ?_⟩) ?_ ?_
  rotate_left
  · intro w'
    go_simp
    with_reducible rfl
  rotate_left
  · simp only [Act.put, List.setIfInBounds_toArray, List.set_cons_zero, List.set_cons_succ, i64_w, i32_w]
    rfl
  refine pure_ (i := 10) (N := some 2) (v := ?_) (a' := ?_) #[true, true, true, true, true, true, true, true, true, true, true] rfl rfl (by kernel_rfl) (fun _ _ _ h => h) (Or.inl ⟨by rfl, ?_⟩) ?_ ?_
  rotate_left
  · intro w'
    go_simp
    with_reducible rfl
  rotate_left
  · simp only [Act.put, List.setIfInBounds_toArray, List.set_cons_zero, List.set_cons_succ, i64_w, i32_w]
    rfl
  refine done_ (by kernel_rfl) ?_
  clear hHeld
  go_wp2
  go_ret
  exact ⟨by rw [HW.out]; rfl, B6.out⟩
theorem zeroM : (Try.prog.info? 43).map (fun i => (i.zero, i.size, i.bytes)) = some (some (.agg (Array.replicate 258 (.int .i64 0))), 258, 2064) := by kernel_rfl
theorem zero258 : (Value.agg (Array.replicate 258 (.int .i64 0))).cells = ints .i64 (List.replicate 258 0) := by kernel_rfl
theorem cellsM : (Value.agg (Array.replicate 258 (.int .i64 0))).cells = ints .i64 (mtr []) := by
  have e : mtr [] = List.replicate 258 0 := by
    rw [tabn_zero]
    unfold mtr
    refine tabn_congr (fun j hj => ?_)
    rw [spd_nil]
    split
    · simp
    · split <;> rfl
  rw [e]
  exact zero258
def split_Cost.f (a0 : ByteArray) (a1 : Int) : Option Int := if a0.size = 0 ∨ 67108864 < a0.size then some 0 else if 0 ≤ a1 ∧ a1 ≤ 1099511627776 then some (costP (nb a0) a1) else none
theorem take_nb (s : ByteArray) {j : Nat} (hj : j < s.size) : (nb s).take (j + 1) = (nb s).take j ++ [(nb s).getD j 0] := by
  have hl : j < (nb s).length := by rw [nb_length]; exact hj
  rw [List.take_add_one, List.getElem?_eq_getElem hl, List.getD_eq_getElem?_getD, List.getElem?_eq_getElem hl]
  rfl
theorem nb_at (s : ByteArray) {j : Nat} (hj : j < s.size) : (nb s).getD j 0 < 256 := by
  have hl : j < (nb s).length := by rw [nb_length]; exact hj
  rw [List.getD_eq_getElem?_getD, List.getElem?_eq_getElem hl]
  exact nb_lt s _ (List.getElem_mem hl)
theorem take_lt {bs : List Nat} (h : ∀ x ∈ bs, x < 256) (n : Nat) : ∀ x ∈ bs.take n, x < 256 := fun x hx => h x (List.mem_of_mem_take hx)
set_option maxHeartbeats 8000000 in
set_option maxRecDepth 100000 in
theorem split_Cost.calls (a0 : ByteArray) (a1 : Int) (r : Int) (w : World) (h : split_Cost.f a0 a1 = some r) :
    Calls Try.prog 10 #[.string a0, .int .i64 a1] w fun e w' => e = .returned (.int .i64 r) ∧ Below w.heap.size w w' := by
  unfold split_Cost.f at h
  by_cases h1 : a0.size = 0
  · rw [if_pos (.inl h1)] at h
    obtain rfl : 0 = r := Option.some.inj h
    have e : a0.toList = [] := by
      apply List.eq_nil_of_length_eq_zero
      have := congrArg List.length (rfl : nb a0 = nb a0)
      have h2 := nb_length a0
      unfold nb at h2
      rw [List.length_map] at h2
      rw [ByteArray.toList_eq, h2]; exact h1
    have t1 : a0.toList.isEmpty = true := by rw [e]; rfl
    have t2 : (a0.toList = []) = True := eq_true e
    clear h h1 e
    go_enter Try.func10, Try.ntmps10
    go_wp2
    go_ret
    exact ⟨rfl, Below.refl _ _⟩
  have hne : a0.toList ≠ [] := by
    intro e
    apply h1
    have h2 := nb_length a0
    unfold nb at h2
    rw [List.length_map, ← ByteArray.toList_eq, e] at h2
    exact h2.symm
  have t1 : a0.toList.isEmpty = false := by simpa using hne
  have t2 : (a0.toList = []) = False := eq_false hne
  by_cases h2 : 67108864 < a0.size
  · rw [if_pos (.inr h2)] at h
    obtain rfl : 0 = r := Option.some.inj h
    have t3 : decide (67108864 < (a0.size : Int)) = true := decide_eq_true (by omega)
    have t4 : (67108864 < a0.size) = True := eq_true h2
    clear h h1 h2 hne
    go_enter Try.func10, Try.ntmps10
    go_wp2
    go_ret
    exact ⟨rfl, Below.refl _ _⟩
  rw [if_neg (by omega)] at h
  by_cases h3 : 0 ≤ a1 ∧ a1 ≤ 1099511627776
  case neg => rw [if_neg h3] at h; cases h
  rw [if_pos h3] at h
  obtain rfl : costP (nb a0) a1 = r := Option.some.inj h
  have t3 : decide (67108864 < (a0.size : Int)) = false := decide_eq_false (by omega)
  have HS := Aside0.mk (show a0.size ≤ 67108864 by omega)
  have HB := Aside0.mk (nb_lt a0)
  have hw := spd_le (nb a0) (nb_lt a0) (by rw [nb_length]; omega)
  have hw2 := W_bd (n := (nb a0).length) (by rw [nb_length]; omega)
  have HW := Aside0.mk (show wrap64 ((W (nb a0).length : Int) - (spd (nb a0) : Int) + a1) = costP (nb a0) a1 from by unfold costP; exact w64 (by omega) (by omega))
  clear h h1 h2 h3 hne hw hw2
  go_enter Try.func10, Try.ntmps10
  go_wp2_with (first
    | ((with_reducible refine gate_dst (N := 5) rfl ?_); refine alloc_blk rfl rfl zeroM .i64 _ cellsM ?_; intro g w1 G1 K1 B1)
    | ((with_reducible refine gate_dst (N := 16) rfl ?_); refine conv_event rfl rfl a0 rfl Try.underlying9 Try.underlying33 Try.underlying5 ?_; intro w2 c hcc hby hB2; have Y2 := Aside0.mk hby; have B2 := Aside0.mk (below_step B1.out hB2); have K2 := Aside0.mk (K1.out.below hB2); have Lc := Aside0.mk hcc; clear hby hB2 hcc))
  have NE := Aside0.mk (show w1.heap.size ≠ g from fun e => by have := K1.out.lt; omega)
  obtain ⟨b, hbb⟩ : ∃ b, w1.heap.size = b := ⟨_, rfl⟩
  rw [hbb] at Y2 NE
  rw [hbb]
  clear hbb K1 B1
  go_loopg [18] a0.size (fun q v18 w' => ∃ (L : Int) (j : Nat), v18 = .int .i64 L ∧ Aside0 (L = (j : Int) ∧ j + q = a0.size) ∧ Aside0 (Blk w' g .i64 43 (mtr ((nb a0).take j))) ∧ Aside0 (Byt w' b a0) ∧ Aside0 (Below w.heap.size w w'))
  case atStart => exact ⟨0, 0, rfl, ⟨rfl, by omega⟩, K2, Y2, B2⟩
  case round =>
    clear K2 Y2 B2
    obtain ⟨L, j, rfl, HA, K, Y, B⟩ := hrel
    cases gk with
    | zero =>
      have u1 : decide (L < (a0.size : Int)) = false := decide_eq_false (by have := HA.out; omega)
      have ej : (nb a0).take j = nb a0 := List.take_of_length_le (by rw [nb_length]; have := HA.out; omega)
      rw [ej] at K
      clear ej
      go_wp2_with (first
        | (go_at_call 16; (with_reducible refine (needs_calls g (nb a0) _ K.out HB.out (by rw [nb_length]; exact HS.out)).mono ?_); rintro e w3 ⟨rfl, hB⟩; have B3 := Aside0.mk (below_step B.out hB); clear hB))
      go_ret
      exact ⟨by rw [HW.out]; rfl, B3.out⟩
    | succ q =>
      have u1 : decide (L < (a0.size : Int)) = true := decide_eq_true (by have := HA.out; omega)
      have p1 : (0 ≤ L) = True := eq_true (by have := HA.out; omega)
      have q1 : (L < (a0.size : Int)) = True := eq_true (by have := HA.out; omega)
      have hjs : j < a0.size := by have := HA.out; omega
      have hby := Y.out.cell j hjs
      rw [bt_nb] at hby
      have e1 : L.toNat = j := by have := HA.out; omega
      rw [← e1] at hby
      obtain ⟨c, hc⟩ : ∃ c, (nb a0).getD L.toNat 0 = c := ⟨_, rfl⟩
      rw [hc] at hby
      have hc2 : (nb a0).getD j 0 = c := by rw [← e1]; exact hc
      have HJ := Aside0.mk (show j < a0.size ∧ c < 256 ∧ (nb a0).take (j + 1) = (nb a0).take j ++ [c] from ⟨hjs, by rw [← hc2]; exact nb_at a0 hjs, by rw [take_nb a0 hjs, hc2]⟩)
      clear hjs e1 hc hc2
      go_wp2_with (first
        | (go_at_call 15; (with_reducible refine (add_calls g c ((nb a0).take j) _ K.out HJ.out.2.1 (take_lt HB.out j) (by have := HS.out; have := HJ.out.1; rw [List.length_take]; omega)).mono ?_); rintro e w3 ⟨rfl, hK, w4, hB, hG⟩; have K3 := Aside0.mk hK; have B4 := Aside0.mk (below_step B.out hB); have B3 := Aside0.mk (below_grown B4.out hG G1.out B4.out.size); have Y3 := Aside0.mk ((Y.out.below hB).grown hG (fun e => NE.out (Option.some.inj e))); clear hK hB hG))
      rw [← HJ.out.2.2] at K3
      go_roundg q
      case measure => exact Nat.lt_succ_self _
      case rel => exact ⟨wrap64 (L + 1), j + 1, rfl, ⟨by have := HA.out; have := HS.out; rw [w64 (by omega) (by omega)]; omega, by have := HA.out; omega⟩, K3, Y3, B3⟩
end Go.Proofs.Ytdejkajdlflabaa.Hd
/- split.from, walked by hand. -/
namespace Go.Proofs.Ytdejkajdlflabaa.Hd
open Go Go.RowKit Go.Deep Go.Proofs.YtdejkajdlflabaaW.PrintWords Go.Proofs.YtdejkajdlflabaaW.PrintLast Go.Proofs.YtdejkajdlflabaaW.PrintMore Go.Proofs.Ytdejkajdlflabaa.Hw Go.Proofs.Ytdejkajdlflabaa.Com Go.Proofs.Ytdejkajdlflabaa.Cn Go.Proofs.Ytdejkajdlflabaa.P Go.Proofs.Ytdejkajdlflabaa.Pure
attribute [local go_sem] max2_int min2_int max_two min_two max_three min_three max_four min_four
attribute [local irreducible] W spd lgC
def wy2 (p : Nat × Int) : List Value := [.int .i64 (p.1 : Int), .int .i64 p.2]
theorem infoW : (Try.prog.info? 37).map (fun i => (i.zero, i.size, i.bytes)) = some (some (.agg #[.int .i64 0, .int .i64 0]), (wy2 (0, 0)).length, 16) := by kernel_rfl
theorem sizeW : (Try.prog.info? 37).map (·.size) = some 2 := by kernel_rfl
theorem way_c1 {W' : World} {b t n : Nat} {F : Nat → Nat × Int} (h : Rec W' b t 2 n (fun x => wy2 (F x))) {x : Nat} {v : Int} (hx : x < n) (hv : (F x).2 = v) : W'.cell? ⟨b, x * 2 + 1, none⟩ = some (.int .i64 v) := by
  have := h.cell (x := x) (j := 1) hx (by decide)
  rw [this, ← hv]; rfl
theorem way_c0 {W' : World} {b t n : Nat} {F : Nat → Nat × Int} (h : Rec W' b t 2 n (fun x => wy2 (F x))) {x v : Nat} (hx : x < n) (hv : (F x).1 = v) : W'.cell? ⟨b, x * 2, none⟩ = some (.int .i64 (v : Int)) := by
  have := h.cell (x := x) (j := 0) hx (by decide)
  rw [Nat.add_zero] at this
  rw [this, ← hv]; rfl
theorem store_run {P : Program} {o : Oper} {a : Act} {W : World} {ty : TypeId} {x y : Operand} {b o' : Nat} {cells : Array Value} (ho : o.op = .store ty x y) (hx : a.eval x = .pointer (some ⟨b, o', none⟩)) (hy : a.eval y = .agg cells)
    (ht : W.there b o' cells.size) (hi : (P.info? ty).map (·.size) = some cells.size) (h1 : cells.all (·.oneCell') = true) : (execOp a.eval o).run P W = .ok .skip (W.setCells b o' cells.toList) := by
  have := run_storeAt_mid (P := P) W b o' ty cells ht hi h1
  simp [execOp, ho, hx, hy, this]
theorem needs_v (g : Nat) (bs : List Nat) (v : Int) (w : World) (hK : Blk w g .i64 43 (mtr bs)) (hb : ∀ x ∈ bs, x < 256) (hl : bs.length ≤ 67108864) (hv : (W bs.length : Int) - (spd bs : Int) = v) :
    Calls Try.prog 16 #[.pointer (some ⟨g, 0, none⟩)] w fun e w' => e = .returned (.int .i64 v) ∧ Below w.heap.size w w' := by
  subst hv
  exact needs_calls g bs w hK hb hl
/-- What stands in the row of ways from a place, the longest first part first. -/
def frP (bs : List Nat) (fee : Int) (G : Nat → Int) (z j : Nat) : Nat × Int := (z - j, costP (bs.take (z - j)) fee + G (z - j))
theorem cost_bd {bs : List Nat} {fee : Int} (hb : ∀ x ∈ bs, x < 256) (hl : bs.length ≤ 4096) (hf : 0 ≤ fee ∧ fee ≤ 1048576) : 0 ≤ costP bs fee ∧ costP bs fee ≤ 34361835520 ∧ (W bs.length : Int) - (spd bs : Int) ≤ 34359738368 ∧ 0 ≤ (W bs.length : Int) - (spd bs : Int) := by
  have h1 := spd_le bs hb (by omega)
  have h2 := W_bd (n := bs.length) (by omega)
  unfold costP
  omega
theorem fr_facts {i n z m j0 d sz q : Nat} (hi : i < sz) (hs : sz ≤ 4096) (hz : z ≤ sz - i) (h1 : 1 ≤ n) (hn : n + (q + 1) = z + 1) (hm : i + n = m) (hj : m - 1 = j0) (hd : z - n = d) :
    wrap64 ((i : Int) + (n : Int)) = (m : Int) ∧ wrap64 ((m : Int) - 1) = (j0 : Int) ∧ wrap64 ((z : Int) - (n : Int)) = (d : Int) ∧ j0 < sz ∧ m < sz + 1 ∧ d < z ∧ n ≤ sz - i ∧ n ≤ 4096 := by
  refine ⟨?_, ?_, ?_, by omega, by omega, by omega, by omega, by omega⟩
  · rw [w64 (by omega) (by omega)]; omega
  · rw [w64 (by omega) (by omega)]; omega
  · rw [w64 (by omega) (by omega)]; omega
theorem w_facts {NV fee cst Fc tot : Int} (h1 : NV + fee = cst) (h2 : cst + Fc = tot) (h3 : 0 ≤ cst) (h4 : cst ≤ 34361835520) (h5 : 0 ≤ Fc) (h6 : Fc ≤ 1099511627776) : wrap64 (NV + fee) = cst ∧ wrap64 (cst + Fc) = tot := by
  rw [h1, h2]
  exact ⟨w64 (by omega) (by omega), w64 (by omega) (by omega)⟩
theorem nb_get (s : ByteArray) {j : Nat} (h : j < s.size) : (s[j]'h).toNat = (nb s).getD j 0 := by
  have hl : j < s.data.toList.length := by rw [Array.length_toList]; exact h
  unfold nb
  rw [List.getD_eq_getElem?_getD, List.getElem?_map, List.getElem?_eq_getElem hl]
  rfl
theorem pred_of {n : Nat} (h : 1 ≤ n) : ∃ p, n = p + 1 := ⟨n - 1, by omega⟩
theorem idx_of {i n m j0 p : Nat} (hm : i + n = m) (hj : m - 1 = j0) (hp : n = p + 1) : i + p = j0 := by omega
theorem tk_bd {bs : List Nat} {k sz i : Nat} (h : bs.length = sz - i) (hs : sz ≤ 4096) : (bs.take k).length < 67108864 := by
  rw [List.length_take]
  omega
theorem fr_inc {n z q sz i : Nat} (hs : sz ≤ 4096) (hz : z ≤ sz - i) (hn : n + (q + 1) = z + 1) : Value.int .i64 (wrap64 ((n : Int) + 1)) = .int .i64 ((n + 1 : Nat) : Int) := by
  rw [w64 (by omega) (by omega)]; rfl
theorem fr_next {n z q : Nat} (h1 : 1 ≤ n) (hn : n + (q + 1) = z + 1) : 1 ≤ n + 1 ∧ n + 1 + q = z + 1 := by omega
theorem fr_le {n z q : Nat} (hn : n + (q + 1) = z + 1) : n ≤ z := by omega
theorem fr_row {bs T : List Nat} {fee tot Fc : Int} {F : Nat → Nat × Int} {i n z m d j : Nat} (hd : z - n = d) (hm : i + n = m) (hT : bs.take n = T) (ht : costP T fee + Fc = tot) (hF : (F m).2 = Fc) (hdz : d < z) (hj : j < z) (hnz : n ≤ z) :
    (if j = d then [Value.int .i64 (n : Int), .int .i64 tot] else wy2 (if z - j < n then frP bs fee (fun n => (F (i + n)).2) z j else (0, 0))) = wy2 (if z - j < n + 1 then frP bs fee (fun n => (F (i + n)).2) z j else (0, 0)) := by
  by_cases e : j = d
  · have e2 : z - j = n := by omega
    rw [if_pos e, if_pos (by omega)]
    unfold frP wy2
    rw [e2]
    simp only
    rw [hT, hm, hF, ht]
  · rw [if_neg e]
    by_cases h : z - j < n
    · have h2 : z - j < n + 1 := by omega
      rw [if_pos h, if_pos h2]
    · have h2 : ¬ z - j < n + 1 := by omega
      rw [if_neg h, if_neg h2]
set_option maxHeartbeats 8000000 in
set_option maxRecDepth 100000 in
theorem from_calls (s : ByteArray) (i bw n0 z : Nat) (most fee : Int) (F : Nat → Nat × Int) (w : World) (hV : Rec w bw 37 2 n0 (fun x => wy2 (F x))) (hn0 : n0 = s.size + 1) (hi : i < s.size) (hs : s.size ≤ 4096) (hz : (if ((s.size - i : Nat) : Int) < most then ((s.size - i : Nat) : Int) else most) = (z : Int)) (hz1 : z ≤ s.size - i) (hf : 0 ≤ fee ∧ fee ≤ 1048576) (hF : ∀ x, 0 ≤ (F x).2 ∧ (F x).2 ≤ 1099511627776) :
    Calls Try.prog 13 #[.string s, .int .i64 (i : Int), .int .i64 most, .int .i64 fee, .slice (some ⟨bw, 0, none⟩) n0 n0] w fun e w' => ∃ gl, e = .returned (.slice (some ⟨gl, 0, none⟩) z z) ∧ w.heap.size ≤ gl ∧
      Rec w' gl 37 2 z (fun j => wy2 (frP ((nb s).drop i) fee (fun n => (F (i + n)).2) z j)) ∧ Below w.heap.size w w' := by
  have V0 := Aside0.mk hV
  have HB := Aside0.mk (show ∀ x ∈ (nb s).drop i, x < 256 from fun x hx => nb_lt s x (List.mem_of_mem_drop hx))
  have HL := Aside0.mk (show ((nb s).drop i).length = s.size - i by rw [List.length_drop, nb_length])
  have HN := Aside0.mk (show n0 = s.size + 1 ∧ i < s.size ∧ s.size ≤ 4096 ∧ z ≤ s.size - i from ⟨hn0, hi, hs, hz1⟩)
  have HFE := Aside0.mk hf
  have HFF := Aside0.mk hF
  have ew : wrap64 ((s.size : Int) - (i : Int)) = ((s.size - i : Nat) : Int) := by rw [w64 (by omega) (by omega)]; omega
  clear hV hn0 hi hs hz1 hf hF
  go_enter Try.func13, Try.ntmps13
  go_wp2_with (first
    | ((with_reducible refine gate_dst (N := 22) rfl ?_); refine make_rec rfl rfl z rfl rfl Try.underlying35 (.agg #[.int .i64 0, .int .i64 0]) (wy2 (0, 0)) infoW rfl (by decide) (by have := HN.out; omega) (by have := HN.out; omega) ?_; intro gl w1 G1 L1 B1)
    | ((with_reducible refine gate_dst (N := 13) rfl ?_); refine alloc_blk rfl rfl zeroM .i64 _ cellsM ?_; intro g w2 G2 K2 B2; have L2 := Aside0.mk (L1.out.below B2.out); have B3 := Aside0.mk (below_step B1.out B2.out); have V2 := Aside0.mk (V0.out.below B3.out)))
  have NE1 := Aside0.mk (show gl ≠ g from Nat.ne_of_lt (Nat.lt_of_lt_of_le L1.out.lt G2.out))
  have NE2 := Aside0.mk (show bw ≠ g from Nat.ne_of_lt (Nat.lt_of_lt_of_le V0.out.lt (Nat.le_trans B1.out.size G2.out)))
  have NE3 := Aside0.mk (show bw ≠ gl from Nat.ne_of_lt (Nat.lt_of_lt_of_le V0.out.lt G1.out))
  have G2' := Aside0.mk (Nat.le_trans B1.out.size G2.out)
  have L3 := Aside0.mk (show Rec w2 gl 37 2 z (fun j => wy2 (if z - j < 1 then frP ((nb s).drop i) fee (fun n => (F (i + n)).2) z j else (0, 0))) from L2.out.congr (fun j hj => by rw [if_neg (by omega)]))
  clear L1 L2 B1 B2 G2 V0 ew hz
  go_loopg [14] z (fun q v14 w' => ∃ n : Nat, v14 = .int .i64 (n : Int) ∧ Aside0 (1 ≤ n ∧ n + q = z + 1) ∧ Aside0 (Blk w' g .i64 43 (mtr (((nb s).drop i).take (n - 1)))) ∧ Aside0 (Rec w' gl 37 2 z (fun j => wy2 (if z - j < n then frP ((nb s).drop i) fee (fun n => (F (i + n)).2) z j else (0, 0)))) ∧ Aside0 (Rec w' bw 37 2 n0 (fun x => wy2 (F x))) ∧ Aside0 (Below w.heap.size w w'))
  case atStart => exact ⟨1, rfl, ⟨by omega, by omega⟩, K2, L3, V2, B3⟩
  case round =>
    clear K2 L3 V2 B3
    obtain ⟨n, rfl, HA, K, L, V, B⟩ := hrel
    cases gk with
    | zero =>
      have u1 : decide ((n : Int) ≤ (z : Int)) = false := decide_eq_false (by have := HA.out; omega)
      have u2 : decide (n ≤ z) = false := decide_eq_false (by have := HA.out; omega)
      go_wp2
      go_ret
      exact ⟨gl, rfl, G1.out, L.out.congr (fun j hj => by rw [if_pos (by have := HA.out; omega)]), B.out⟩
    | succ q =>
      have u1 : decide ((n : Int) ≤ (z : Int)) = true := decide_eq_true (by have := HA.out; omega)
      have u2 : decide (n ≤ z) = true := decide_eq_true (by have := HA.out; omega)
      obtain ⟨m, hm⟩ : ∃ m, i + n = m := ⟨_, rfl⟩
      obtain ⟨j0, hj0⟩ : ∃ j0, m - 1 = j0 := ⟨_, rfl⟩
      obtain ⟨d, hd⟩ : ∃ d, z - n = d := ⟨_, rfl⟩
      obtain ⟨T, hT⟩ : ∃ T, ((nb s).drop i).take n = T := ⟨_, rfl⟩
      obtain ⟨c, hc⟩ : ∃ c, (nb s).getD j0 0 = c := ⟨_, rfl⟩
      have NF := fr_facts HN.out.2.1 HN.out.2.2.1 HN.out.2.2.2 HA.out.1 HA.out.2 hm hj0 hd
      have hj0s : j0 < s.size := NF.2.2.2.1
      have hTc : T = ((nb s).drop i).take (n - 1) ++ [c] := by
        rw [← hT, ← hc]
        obtain ⟨p, hp⟩ := pred_of HA.out.1
        rw [hp, Nat.add_sub_cancel, List.take_add_one, List.getElem?_drop]
        have e : i + p = j0 := idx_of hm hj0 hp
        rw [e, List.getD_eq_getElem?_getD, List.getElem?_eq_getElem (by rw [nb_length]; exact hj0s)]
        rfl
      have hTl : T.length = n := by rw [← hT, List.length_take, HL.out]; exact Nat.min_eq_left NF.2.2.2.2.2.2.1
      have hTb : ∀ x ∈ T, x < 256 := by rw [← hT]; exact take_lt HB.out n
      obtain ⟨NV, hNV⟩ : ∃ NV : Int, (W T.length : Int) - (spd T : Int) = NV := ⟨_, rfl⟩
      have hcb := cost_bd (fee := fee) hTb (by rw [hTl]; exact NF.2.2.2.2.2.2.2) HFE.out
      rw [hNV] at hcb
      obtain ⟨Fc, hFc⟩ : ∃ Fc, (F m).2 = Fc := ⟨_, rfl⟩
      have hFb := HFF.out m
      rw [hFc] at hFb
      obtain ⟨cst, hcst⟩ : ∃ cst, costP T fee = cst := ⟨_, rfl⟩
      have hcn : NV + fee = cst := by rw [← hcst, ← hNV]; rfl
      rw [hcst] at hcb
      obtain ⟨tot, htot⟩ : ∃ tot, cst + Fc = tot := ⟨_, rfl⟩
      have e1 := NF.1
      have e2 := NF.2.1
      have e3 := NF.2.2.1
      have e45 := w_facts hcn htot hcb.1 hcb.2.1 hFb.1 hFb.2
      have e4 := e45.1
      have e5 := e45.2
      have e6 : (s[j0]'hj0s).toNat = c := by rw [nb_get s hj0s, hc]
      have p1 : (0 ≤ (j0 : Int)) = True := eq_true (Int.natCast_nonneg _)
      have p2 : ((j0 : Int) < (s.size : Int)) = True := eq_true (Int.ofNat_lt.2 hj0s)
      have p3 : (j0 < s.size) = True := eq_true hj0s
      have hmn : m < n0 := by rw [HN.out.1]; exact NF.2.2.2.2.1
      have hdz : d < z := NF.2.2.2.2.2.1
      have p4 : (0 ≤ (m : Int)) = True := eq_true (Int.natCast_nonneg _)
      have p5 : ((m : Int) < (n0 : Int)) = True := eq_true (Int.ofNat_lt.2 hmn)
      have p6 : (m < n0) = True := eq_true hmn
      have p7 : (0 ≤ (d : Int)) = True := eq_true (Int.natCast_nonneg _)
      have p8 : ((d : Int) < (z : Int)) = True := eq_true (Int.ofNat_lt.2 hdz)
      have p9 : (d < z) = True := eq_true hdz
      have HTC := Aside0.mk hTc
      have HT := Aside0.mk (And.intro hTb (show T.length ≤ 67108864 by rw [hTl]; exact Nat.le_trans NF.2.2.2.2.2.2.2 (by decide)))
      have HNV := Aside0.mk hNV
      have FC := Aside0.mk hFc
      have HMI := Aside0.mk hmn
      have HD := Aside0.mk hdz
      have HCC := Aside0.mk (show c < 256 by rw [← hc]; exact nb_at s hj0s)
      have HX := Aside0.mk (show z - n = d ∧ i + n = m ∧ ((nb s).drop i).take n = T ∧ costP T fee + Fc = tot from ⟨hd, hm, hT, by rw [hcst]; exact htot⟩)
      clear hm hj0 hd hT hc hTc hTl hTb hNV hcb hFc hFb hcst hcn htot hmn hdz e45 NF
      go_wp2_with (first
        | (go_at_call 15; (with_reducible refine (add_calls g c (((nb s).drop i).take (n - 1)) _ K.out HCC.out (take_lt HB.out _) (tk_bd HL.out HN.out.2.2.1)).mono ?_); rintro e w7 ⟨rfl, hK, w6, hB, hG⟩; have K7 := Aside0.mk hK; have B6 := Aside0.mk (below_step B.out hB); have B7 := Aside0.mk (below_grown B6.out hG G2'.out B6.out.size); have L7 := Aside0.mk ((L.out.below hB).grown hG (fun e => NE1.out (Option.some.inj e))); have V7 := Aside0.mk ((V.out.below hB).grown hG (fun e => NE2.out (Option.some.inj e))); clear hK hB hG))
      rw [← HTC.out] at K7
      refine start_ (n := 19) (S := fun w' => w'.cell? ⟨bw, m * 2 + 1, none⟩ = some (.int .i64 Fc)) (ds := [18]) #[false, false, false, false, false, false, false, false, false, false, false, false, false, false, false, false, false, false, false] (by kernel_rfl) rfl rfl ((way_c1 (show Rec w7.drew bw 37 2 n0 _ from V7.out) HMI.out FC.out)) (fun hHeld => ?_)
      refine pure_ (i := 0) (N := some 35) (v := ?_) (a' := ?_) #[true, false, false, false, false, false, false, false, false, false, false, false, false, false, false, false, false, false, false] rfl rfl (by kernel_rfl) (fun _ _ _ h => h) (Or.inl ⟨by rfl, ?_⟩) ?_ ?_
      rotate_left
      · intro w'
        go_simp
        with_reducible rfl
      rotate_left
      · simp only [Act.put, List.setIfInBounds_toArray, List.set_cons_zero, List.set_cons_succ, i64_w, i32_w]
        rfl
      refine pure_ (i := 1) (N := some 36) (v := ?_) (a' := ?_) #[true, true, false, false, false, false, false, false, false, false, false, false, false, false, false, false, false, false, false] rfl rfl (by kernel_rfl) (fun _ _ _ h => h) (Or.inl ⟨by rfl, ?_⟩) ?_ ?_
      rotate_left
      · intro w'
        go_simp
        with_reducible rfl
      rotate_left
      · simp only [Act.put, List.setIfInBounds_toArray, List.set_cons_zero, List.set_cons_succ, i64_w, i32_w]
        rfl
      refine pure_ (i := 2) (N := some 37) (v := ?_) (a' := ?_) #[true, true, true, false, false, false, false, false, false, false, false, false, false, false, false, false, false, false, false] rfl rfl (by kernel_rfl) (fun _ _ _ h => h) (Or.inl ⟨by rfl, ?_⟩) ?_ ?_
      rotate_left
      · intro w'
        go_simp
        with_reducible rfl
      rotate_left
      · simp only [Act.put, List.setIfInBounds_toArray, List.set_cons_zero, List.set_cons_succ, i64_w, i32_w]
        rfl
      refine pure_ (i := 3) (N := some 38) (v := ?_) (a' := ?_) #[true, true, true, true, false, false, false, false, false, false, false, false, false, false, false, false, false, false, false] rfl rfl (by kernel_rfl) (fun _ _ _ h => h) (Or.inl ⟨by rfl, ?_⟩) ?_ ?_
      rotate_left
      · intro w'
        go_simp
        with_reducible rfl
      rotate_left
      · simp only [Act.put, List.setIfInBounds_toArray, List.set_cons_zero, List.set_cons_succ, i64_w, i32_w]
        rfl
      refine pure_ (i := 4) (N := some 39) (v := ?_) (a' := ?_) #[true, true, true, true, true, false, false, false, false, false, false, false, false, false, false, false, false, false, false] rfl rfl (by kernel_rfl) (fun _ _ _ h => h) (Or.inl ⟨by rfl, ?_⟩) ?_ ?_
      rotate_left
      · intro w'
        go_simp
        with_reducible rfl
      rotate_left
      · simp only [Act.put, List.setIfInBounds_toArray, List.set_cons_zero, List.set_cons_succ, i64_w, i32_w]
        rfl
      refine pure_ (i := 6) (N := some 41) (v := ?_) (a' := ?_) #[true, true, true, true, true, false, true, false, false, false, false, false, false, false, false, false, false, false, false] rfl rfl (by kernel_rfl) (fun _ _ _ h => h) (Or.inl ⟨by rfl, ?_⟩) ?_ ?_
      rotate_left
      · intro w'
        go_simp
        with_reducible rfl
      rotate_left
      · simp only [Act.put, List.setIfInBounds_toArray, List.set_cons_zero, List.set_cons_succ, i64_w, i32_w]
        rfl
      refine pure_ (i := 8) (N := some 43) (v := ?_) (a' := ?_) #[true, true, true, true, true, false, true, false, true, false, false, false, false, false, false, false, false, false, false] rfl rfl (by kernel_rfl) (fun _ _ _ h => h) (Or.inl ⟨by rfl, ?_⟩) ?_ ?_
      rotate_left
      · intro w'
        go_simp
        with_reducible rfl
      rotate_left
      · simp only [Act.put, List.setIfInBounds_toArray, List.set_cons_zero, List.set_cons_succ, i64_w, i32_w]
        rfl
      refine pure_ (i := 9) (N := some 44) (v := ?_) (a' := ?_) #[true, true, true, true, true, false, true, false, true, true, false, false, false, false, false, false, false, false, false] rfl rfl (by kernel_rfl) (fun _ _ _ h => h) (Or.inl ⟨by rfl, ?_⟩) ?_ ?_
      rotate_left
      · intro w'
        go_simp
        with_reducible rfl
      rotate_left
      · simp only [Act.put, List.setIfInBounds_toArray, List.set_cons_zero, List.set_cons_succ, i64_w, i32_w]
        rfl
      refine pure_ (i := 10) (N := some 45) (v := ?_) (a' := ?_) #[true, true, true, true, true, false, true, false, true, true, true, false, false, false, false, false, false, false, false] rfl rfl (by kernel_rfl) (fun _ _ _ h => h) (Or.inl ⟨by rfl, ?_⟩) ?_ ?_
      rotate_left
      · intro w'
        go_simp
        with_reducible rfl
      rotate_left
      · simp only [Act.put, List.setIfInBounds_toArray, List.set_cons_zero, List.set_cons_succ, i64_w, i32_w]
        rfl
      refine pure_ (i := 11) (N := some 46) (v := ?_) (a' := ?_) #[true, true, true, true, true, false, true, false, true, true, true, true, false, false, false, false, false, false, false] rfl rfl (by kernel_rfl) (fun _ _ _ h => h) (Or.inl ⟨by rfl, ?_⟩) ?_ ?_
      rotate_left
      · intro w'
        go_simp
        with_reducible rfl
      rotate_left
      · simp only [Act.put, List.setIfInBounds_toArray, List.set_cons_zero, List.set_cons_succ, i64_w, i32_w]
        rfl
      refine pure_ (i := 12) (N := some 47) (v := ?_) (a' := ?_) #[true, true, true, true, true, false, true, false, true, true, true, true, true, false, false, false, false, false, false] rfl rfl (by kernel_rfl) (fun _ _ _ h => h) (Or.inl ⟨by rfl, ?_⟩) ?_ ?_
      rotate_left
      · intro w'
        go_simp
        with_reducible rfl
      rotate_left
      · simp only [Act.put, List.setIfInBounds_toArray, List.set_cons_zero, List.set_cons_succ, i64_w, i32_w]
        rfl
      refine pure_ (i := 13) (N := some 48) (v := ?_) (a' := ?_) #[true, true, true, true, true, false, true, false, true, true, true, true, true, true, false, false, false, false, false] rfl rfl (by kernel_rfl) (fun _ _ _ h => h) (Or.inl ⟨by rfl, ?_⟩) ?_ ?_
      rotate_left
      · intro w'
        go_simp
        with_reducible rfl
      rotate_left
      · simp only [Act.put, List.setIfInBounds_toArray, List.set_cons_zero, List.set_cons_succ, i64_w, i32_w]
        rfl
      refine take_ (i := 14) (N := some 49) (v := ?_) (a' := ?_) #[true, true, true, true, true, false, true, false, true, true, true, true, true, true, true, false, false, false, false] rfl rfl (by kernel_rfl) (fun _ _ _ h => h) (Or.inl ⟨by rfl, ?_⟩) hHeld ?_ ?_
      rotate_left
      · intro w' s0
        go_simp
        with_reducible rfl
      rotate_left
      · simp only [Act.put, List.setIfInBounds_toArray, List.set_cons_zero, List.set_cons_succ, i64_w, i32_w]
        rfl
      refine one_ (i := 5) (N := some 40) #[true, true, true, true, true, true, true, false, true, true, true, true, true, true, true, false, false, false, false] rfl rfl (by kernel_rfl) (by decide) (fun K hK => ?_)
      refine goes_ Try.func16 (by kernel_rfl) rfl #[.pointer (some ⟨g, 0, none⟩)] (by rfl) rfl rfl (by simp only [List.map_toArray, List.map_cons, List.map_nil]; rfl) ?_
      with_reducible refine (needs_v g T NV w7.drew (K7.out.drew) HT.out.1 HT.out.2 HNV.out).mono ?_
      rintro e w8 ⟨rfl, hB⟩
      refine ⟨_, rfl, ?_⟩
      have K8 := Aside0.mk ((K7.out.drew).below hB)
      have V8 := Aside0.mk ((show Rec w7.drew bw 37 2 n0 _ from V7.out).below hB)
      have L8 := Aside0.mk ((show Rec w7.drew gl 37 2 z _ from L7.out).below hB)
      have B8 := Aside0.mk (below_step (below_drew B7.out) hB)
      clear hB
      refine hK.out _ _ ((way_c1 V8.out HMI.out FC.out)) (fun hHeld => ?_)
      clear hK K
      refine norm_ (a' := ?_) ?_ ?_
      rotate_left
      · show Act.put _ (some 40) _ = _
        simp only [Act.put, List.setIfInBounds_toArray, List.set_cons_zero, List.set_cons_succ, i64_w, i32_w]
        rfl
      refine pure_ (i := 7) (N := some 42) (v := ?_) (a' := ?_) #[true, true, true, true, true, true, true, true, true, true, true, true, true, true, true, false, false, false, false] rfl rfl (by kernel_rfl) (fun _ _ _ h => h) (Or.inl ⟨by rfl, ?_⟩) ?_ ?_
      rotate_left
      · intro w'
        go_simp
        with_reducible rfl
      rotate_left
      · simp only [Act.put, List.setIfInBounds_toArray, List.set_cons_zero, List.set_cons_succ, i64_w, i32_w]
        rfl
      refine pure_ (i := 15) (N := some 50) (v := ?_) (a' := ?_) #[true, true, true, true, true, true, true, true, true, true, true, true, true, true, true, true, false, false, false] rfl rfl (by kernel_rfl) (fun _ _ _ h => h) (Or.inl ⟨by rfl, ?_⟩) ?_ ?_
      rotate_left
      · intro w'
        go_simp
        with_reducible rfl
      rotate_left
      · simp only [Act.put, List.setIfInBounds_toArray, List.set_cons_zero, List.set_cons_succ, i64_w, i32_w]
        rfl
      refine pure_ (i := 16) (N := some 51) (v := ?_) (a' := ?_) #[true, true, true, true, true, true, true, true, true, true, true, true, true, true, true, true, true, false, false] rfl rfl (by kernel_rfl) (fun _ _ _ h => h) (Or.inl ⟨by rfl, ?_⟩) ?_ ?_
      rotate_left
      · intro w'
        go_simp
        with_reducible rfl
      rotate_left
      · simp only [Act.put, List.setIfInBounds_toArray, List.set_cons_zero, List.set_cons_succ, i64_w, i32_w]
        rfl
      refine pure_ (i := 17) (N := some 52) (v := ?_) (a' := ?_) #[true, true, true, true, true, true, true, true, true, true, true, true, true, true, true, true, true, true, false] rfl rfl (by kernel_rfl) (fun _ _ _ h => h) (Or.inl ⟨by rfl, ?_⟩) ?_ ?_
      rotate_left
      · intro w'
        go_simp
        with_reducible rfl
      rotate_left
      · simp only [Act.put, List.setIfInBounds_toArray, List.set_cons_zero, List.set_cons_succ, i64_w, i32_w]
        rfl
      refine last_ (i := 18) (N := none) #[true, true, true, true, true, true, true, true, true, true, true, true, true, true, true, true, true, true, true] rfl rfl (by kernel_rfl) (by decide) (fun K hK => ?_)
      refine skip_ (w1 := w8.setCells gl (d * 2) [.int .i64 (n : Int), .int .i64 tot]) (by rfl) rfl (store_run (ty := 37) (x := .tmp 52) (y := .tmp 51) (cells := #[.int .i64 (n : Int), .int .i64 tot]) rfl rfl rfl (L8.out.there HD.out) sizeW (by simp [Value.oneCell'])) ?_
      refine hK.out _ _ ?_
      clear hK K
      refine done_ (by kernel_rfl) ?_
      clear hHeld
      have L9 := Aside0.mk (L8.out.put (vs := [.int .i64 (n : Int), .int .i64 tot]) HD.out rfl)
      have V9 := Aside0.mk (V8.out.same (setC_far [.int .i64 (n : Int), .int .i64 tot] (d * 2) bw NE3.out))
      have K9 := Aside0.mk (show Blk (w8.setCells gl (d * 2) [.int .i64 (n : Int), .int .i64 tot]) g .i64 43 (mtr T) from (setC_far [.int .i64 (n : Int), .int .i64 tot] (d * 2) g (fun e => NE1.out e.symm)).trans K8.out)
      have B9 := Aside0.mk (below_setC [.int .i64 (n : Int), .int .i64 tot] (d * 2) B8.out G1.out)
      obtain ⟨w9, hw9⟩ : ∃ w9, w8.setCells gl (d * 2) [.int .i64 (n : Int), .int .i64 tot] = w9 := ⟨_, rfl⟩
      rw [hw9] at L9 V9 K9 B9
      rw [hw9]
      clear hw9 L8 V8 K8 B8 e1 e2 e3 e4 e5 e6 u1 u2
      go_wp2
      go_roundg q
      case measure => exact Nat.lt_succ_self _
      case rel =>
        refine ⟨n + 1, fr_inc HN.out.2.2.1 HN.out.2.2.2 HA.out.2, ⟨fr_next HA.out.1 HA.out.2⟩, ⟨?_⟩, ⟨L9.out.congr (fun j hj => ?_)⟩, V9, B9⟩
        · rw [Nat.add_sub_cancel, HX.out.2.2.1]; exact K9.out
        · exact fr_row HX.out.1 HX.out.2.1 HX.out.2.2.1 HX.out.2.2.2 FC.out HD.out hj (fr_le HA.out.2)
end Go.Proofs.Ytdejkajdlflabaa.Hd
/- split.least and its comparison, walked by hand. -/
namespace Go.Proofs.Ytdejkajdlflabaa.Hd
open Go Go.RowKit Go.Deep Go.Proofs.YtdejkajdlflabaaW.PrintWords Go.Proofs.YtdejkajdlflabaaW.PrintLast Go.Proofs.YtdejkajdlflabaaW.PrintMore Go.Proofs.Ytdejkajdlflabaa.Hw Go.Proofs.Ytdejkajdlflabaa.Com Go.Proofs.Ytdejkajdlflabaa.Cn Go.Proofs.Ytdejkajdlflabaa.P Go.Proofs.Ytdejkajdlflabaa.Pure
attribute [local go_sem] max2_int min2_int max_two min_two max_three min_three max_four min_four
set_option maxHeartbeats 4000000 in
set_option maxRecDepth 100000 in
theorem less_calls (a c : Nat) (b d : Int) (w : World) :
    Calls Try.prog 14 #[.agg #[.int .i64 (a : Int), .int .i64 b], .agg #[.int .i64 (c : Int), .int .i64 d]] w fun e w' => e = .returned (.bool (decide (b < d))) ∧ Below w.heap.size w w' := by
  obtain ⟨t, ht⟩ : ∃ t, decide (b < d) = t := ⟨_, rfl⟩
  rw [ht]
  go_enter Try.func14, Try.ntmps14
  go_wp2_with (first
    | ((with_reducible refine gate_dst (N := 2) rfl ?_); refine box_event ?hg (N := 2) ?hd (cs := #[.int .i64 (a : Int), .int .i64 b]) (t := 37) ?hr ?_; (case hd => rfl); (case hg => rfl); (case hr => first | (go_simp; done) | (go_simp; rfl)); intro g2 hg2 w1 hx hB; subst hg2; have B1 := Aside0.mk hB; have hc2 := (blk_cell hx 1).trans (rfl : _ = some (Value.int .i64 b)); have X1 := Aside0.mk hx; clear hx hB)
    | ((with_reducible refine gate_dst (N := 3) rfl ?_); refine box_event ?hg (N := 3) ?hd (cs := #[.int .i64 (c : Int), .int .i64 d]) (t := 37) ?hr ?_; (case hd => rfl); (case hg => rfl); (case hr => first | (go_simp; done) | (go_simp; rfl)); intro g3 hg3 w2 hx hB; subst hg3; have B2 := Aside0.mk (below_step B1.out hB); have hd3 := (blk_cell hx 1).trans (rfl : _ = some (Value.int .i64 d)); have hc3 := (blk_cell (blk_below X1.out hB) 1).trans (rfl : _ = some (Value.int .i64 b)); clear hx hB))
  go_ret
  exact ⟨rfl, B2.out⟩
def bst (H : Nat → Nat × Int) : Nat → Nat × Int
  | 0 => H 0
  | j + 1 => if (H (j + 1)).2 < (bst H j).2 then H (j + 1) else bst H j
def One (W : World) (g : Nat) (p : Nat × Int) : Prop := W.heap[g]? = some (.cells #[.int .i64 (p.1 : Int), .int .i64 p.2] 37 (0, 0))
theorem cut_way {gl z : Nat} (h : 1 ≤ z) : ∃ o, (1 < z → o = 2) ∧ ∀ W, (Instr.slice 35 (.slice (some ⟨gl, 0, none⟩) z z) (some (.int .i64 1)) none none).run Try.prog W = .ok (.slice (some ⟨gl, o, none⟩) (z - 1) (z - 1)) W := by
  obtain ⟨i, hi, _, hsz, _⟩ := info_parts infoW
  by_cases h1 : z = 1
  · refine ⟨0, fun h => by omega, fun W => ?_⟩
    have h2 := cut_from (P := Try.prog) 35 37 .i64 Try.underlying35 hi 2 hsz (some ⟨gl, 0, none⟩) z z 1 (by omega) (by omega) W
    rw [if_pos (by omega)] at h2
    exact h2
  · refine ⟨2, fun _ => rfl, fun W => ?_⟩
    have h2 := cut_from (P := Try.prog) 35 37 .i64 Try.underlying35 hi 2 hsz (some ⟨gl, 0, none⟩) z z 1 (by omega) (by omega) W
    rw [if_neg (by omega)] at h2
    have e : ((some (⟨gl, 0, none⟩ : Addr)).map (·.add ((1 : Int).toNat * 2))) = some ⟨gl, 2, none⟩ := by rw [Option.map_some, add_plain]; rfl
    rw [e] at h2
    exact h2
theorem ptr_way {b j : Nat} {v : Value} (h : v = .pointer (some ⟨b, 2 + j * 2, none⟩)) : v = .pointer (some ⟨b, (j + 1) * 2, none⟩) := by
  rw [h, Nat.add_mul, Nat.one_mul, Nat.add_comm]
theorem ls_ne {g4 g5 g7 gl B n : Nat} (h7 : g7 = n) (h4 : B ≤ g4) (h5 : B ≤ g5) (hl : gl < B) (hn : B ≤ n) (l5 : g5 < n) (l4 : g4 < n) : g4 ≠ g7 ∧ g5 ≠ g7 ∧ gl ≠ g7 ∧ B ≤ g7 := by omega
theorem ls_ne2 {g5 gl B : Nat} (h5 : B ≤ g5) (hl : gl < B) : gl ≠ g5 := by omega
theorem alloc_var {P : Program} {ops : Array Oper} {rest : List Oper} {o : Oper} {a : Act} {Q : Exit → Act → World → Prop} {W : World} (hgd : o.guard = none) {t : TypeId} {z : Value} {size bytes : Nat} {cs : Array Value} (ho : o.op = .alloc t) (hinfo : (P.info? t).map (fun i => (i.zero, i.size, i.bytes)) = some (some z, size, bytes)) (hc : z.cells = cs)
    (h : ∀ g w1, Aside0 (g = W.heap.size) → Aside0 (w1.heap[g]? = some (.cells cs t (0, 0))) → Aside0 (Below W.heap.size W w1) → wpList P ops Q rest (a.put o.dst (.pointer (some ⟨g, 0, none⟩))) w1) : wpList P ops Q (o :: rest) a W :=
  alloc_event hgd ho hinfo hc (h _ _ ⟨rfl⟩ ⟨blk_new W _⟩ ⟨below_alloc (Below.refl _ _) _⟩)
theorem store_var {P : Program} {ops : Array Oper} {rest : List Oper} {o : Oper} {a : Act} {Q : Exit → Act → World → Prop} {W : World} (hgd : o.guard = none) (ty : TypeId) (x y : Operand) (ho : o.op = .store ty x y) (g : Nat) (cells old : Array Value) (hx : a.eval x = .pointer (some ⟨g, 0, none⟩)) (hy : a.eval y = .agg cells) (hg : W.heap[g]? = some (.cells old ty (0, 0)))
    (hi : (P.info? ty).map (·.size) = some cells.size) (hl : old.size = cells.size) (h1 : cells.all (·.oneCell') = true)
    (h : ∀ w1, Aside0 (w1.heap[g]? = some (.cells cells ty (0, 0))) → Aside0 (W.grownBy w1 (some g)) → wpList P ops Q rest (a.put o.dst undef) w1) : wpList P ops Q (o :: rest) a W :=
  wpList_store_row hgd ty x y ho g cells hx hy ty old hg hi hl h1 (h _ ⟨setRow_heap W g _ _ ty _ hg⟩ ⟨grown_row W g _⟩)
theorem load_mid {P : Program} {ops : Array Oper} {rest : List Oper} {o : Oper} {a : Act} {Q : Exit → Act → World → Prop} {W : World} (hgd : o.guard = none) (ty : TypeId) (x : Operand) (ho : o.op = .load ty x) {b o' : Nat} {cs : List Value} {d : TypeDesc} (hx : a.eval x = .pointer (some ⟨b, o', none⟩)) (hc : W.rangeAt b o' cs)
    (hu : P.underlying ty = some d) (hd : d.isRow = true) (hi : (P.info? ty).map (·.size) = some cs.length) (h : wpList P ops Q rest (a.put o.dst (.agg cs.toArray)) W) : wpList P ops Q (o :: rest) a W := by
  refine val_event hgd ?_ h
  have := run_loadAt_mid (P := P) W b o' ty cs d hc hu hd hi
  simp [execOp, ho, hx, this]
set_option maxHeartbeats 8000000 in
set_option maxRecDepth 100000 in
theorem least_calls (gl z : Nat) (H : Nat → Nat × Int) (w : World) (hL : Rec w gl 37 2 z (fun j => wy2 (H j))) (hz : 1 ≤ z) (hz2 : z ≤ 100000) :
    Calls Try.prog 12 #[.slice (some ⟨gl, 0, none⟩) z z, .func (.func 14) #[] #[]] w fun e w' => e = .returned (.agg #[.int .i64 ((bst H (z - 1)).1 : Int), .int .i64 (bst H (z - 1)).2]) ∧ Below w.heap.size w w' := by
  obtain ⟨o, ho, hcut⟩ := cut_way (gl := gl) hz
  obtain ⟨z1, hz1⟩ : ∃ z1, z - 1 = z1 := ⟨_, rfl⟩
  rw [hz1] at hcut
  rw [hz1]
  have L0 := Aside0.mk hL
  have HZ := Aside0.mk (show 1 ≤ z ∧ z ≤ 100000 ∧ z1 + 1 = z ∧ (1 < z → o = 2) from ⟨hz, hz2, by omega, ho⟩)
  have q1 : ((0 : Int) < (z : Int)) = True := eq_true (by omega)
  have q2 : (0 < z) = True := eq_true (by omega)
  have q3 : ((1 : Int) ≤ (z : Int)) = True := eq_true (by omega)
  clear hL hz hz2 ho hz1
  go_enter Try.func12, Try.ntmps12
  go_wp2_with (first
    | ((with_reducible refine gate_dst (N := 4) rfl ?_); refine alloc_var rfl rfl infoW rfl ?_; intro g4 w1 G4 X4 B1; have L1 := Aside0.mk (L0.out.below B1.out))
    | ((with_reducible refine gate_dst (N := 10) rfl ?_); refine load_mid rfl 37 (.tmp 9) rfl (b := gl) (o' := 0 * 2) (cs := wy2 (H 0)) ?_ (L1.out.range (x := 0) HZ.out.1 rfl) Try.underlying37 rfl sizeW ?_; (case refine_1 => first | (go_simp; done) | (go_simp; rfl) | rfl))
    | ((with_reducible refine gate_dst (N := 5) rfl ?_); refine alloc_var rfl rfl infoW rfl ?_; intro g5 w2 G5 X5 B2; have L2 := Aside0.mk (L1.out.below B2.out); have X42 := Aside0.mk (blk_below X4.out B2.out); have B3 := Aside0.mk (below_step B1.out B2.out))
    | ((with_reducible refine gate_store (t := 37) (p := 5) rfl ?_); refine store_var rfl 37 (.tmp 5) (.tmp 10) rfl g5 #[.int .i64 ((H 0).1 : Int), .int .i64 (H 0).2] _ rfl rfl X5.out sizeW rfl (by simp [Value.oneCell']) ?_; intro w3 X53 E3))
  have B5 := Aside0.mk (below_grown B3.out E3.out (by have := G5.out; have := B1.out.size; omega) B3.out.size)
  have L5 := Aside0.mk (L2.out.grown E3.out (fun e => by have h1 := Option.some.inj e; have h2 := L1.out.lt; have := G5.out; omega))
  have NE := Aside0.mk (show g4 ≠ g5 from by have h1 := blk_lt X4.out; have := G5.out; omega)
  have X45 := Aside0.mk (blk_grown X42.out E3.out (fun e => NE.out (Option.some.inj e)))
  have HG := Aside0.mk (show w.heap.size ≤ g4 ∧ w.heap.size ≤ g5 ∧ gl < w.heap.size ∧ g5 < w3.heap.size from ⟨by rw [G4.out]; exact Nat.le_refl _, by rw [G5.out]; exact B1.out.size, L0.out.lt, blk_lt X53.out⟩)
  have O5 := Aside0.mk (show One w3 g5 (bst H 0) from X53.out)
  clear L1 L2 X42 X4 X5 B3 B1 B2 G4 G5 E3 X53 L0 hcut q3
  go_loopg [14] z1 (fun q v14 w' => ∃ j : Nat, v14 = .int .i64 (j : Int) ∧ Aside0 (j + q = z1) ∧ Aside0 (One w' g5 (bst H j)) ∧ Aside0 (Rec w' gl 37 2 z (fun j => wy2 (H j))) ∧ Aside0 (w'.heap[g4]? = some (.cells #[.int .i64 0, .int .i64 0] 37 (0, 0))) ∧ Aside0 (Below w.heap.size w w'))
  case atStart => exact ⟨0, rfl, ⟨by omega⟩, O5, L5, X45, B5⟩
  case round =>
    clear O5 L5 X45 B5
    obtain ⟨j, rfl, HA, O, L, X, B⟩ := hrel
    cases gk with
    | zero =>
      have u1 : decide ((j : Int) < (z1 : Int)) = false := decide_eq_false (by have := HA.out; omega)
      have u2 : decide (j < z1) = false := decide_eq_false (by have := HA.out; omega)
      have ej : j = z1 := by have := HA.out; omega
      subst ej
      go_wp2_with (first
        | ((with_reducible refine gate_dst (N := 24) rfl ?_); refine wpList_load_row rfl 37 (.tmp 5) rfl g5 rfl 37 #[.int .i64 ((bst H j).1 : Int), .int .i64 (bst H j).2] (0, 0) _ O.out Try.underlying37 rfl sizeW ?_)
        | ((with_reducible refine gate_store (t := 37) (p := 4) rfl ?_); refine store_var rfl 37 (.tmp 4) (.tmp 24) rfl g4 #[.int .i64 ((bst H j).1 : Int), .int .i64 (bst H j).2] _ rfl rfl X.out sizeW rfl (by simp [Value.oneCell']) ?_; intro w5 X5 E5))
      refine bodyPost_ret (v := .agg #[.int .i64 ((bst H j).1 : Int), .int .i64 (bst H j).2]) (results_cell_row rfl _ _ g4 37 #[.int .i64 ((bst H j).1 : Int), .int .i64 (bst H j).2] (0, 0) _ rfl X5.out Try.underlying37 rfl sizeW) rfl ?_
      exact ⟨rfl, below_grown B.out E5.out HG.out.1 B.out.size⟩
    | succ q =>
      have u1 : decide ((j : Int) < (z1 : Int)) = true := decide_eq_true (by have := HA.out; omega)
      have u2 : decide (j < z1) = true := decide_eq_true (by have := HA.out; omega)
      have p1 : (0 ≤ (j : Int)) = True := eq_true (Int.natCast_nonneg _)
      have p2 : ((j : Int) < (z1 : Int)) = True := eq_true (by have := HA.out; omega)
      have p3 : (j < z1) = True := eq_true (by have := HA.out; omega)
      have ho : o = 2 := HZ.out.2.2.2 (by have := HA.out; have := HZ.out; omega)
      subst ho
      have HJ := Aside0.mk (show j + 1 < z from by have := HA.out; have := HZ.out; omega)
      have HW := Aside0.mk (show wrap64 ((j : Int) + 1) = ((j + 1 : Nat) : Int) from by have := HA.out; have := HZ.out; rw [w64 (by omega) (by omega)]; omega)
      by_cases hlt : (H (j + 1)).2 < (bst H j).2
      · have u3 : decide ((H (j + 1)).2 < (bst H j).2) = true := decide_eq_true hlt
        have HLT := Aside0.mk (show bst H (j + 1) = H (j + 1) from if_pos hlt)
        clear hlt
        go_wp2_with (first
          | ((with_reducible refine gate_dst (N := 17) rfl ?_); refine load_mid rfl 37 (.tmp 16) rfl (b := gl) (o' := (j + 1) * 2) (cs := wy2 (H (j + 1))) ?_ (L.out.range (x := j + 1) HJ.out rfl) Try.underlying37 rfl sizeW ?_; (case refine_1 => exact ptr_way rfl))
          | ((with_reducible refine gate_dst (N := 7) rfl ?_); refine alloc_var rfl rfl infoW rfl ?_; intro g7 w5 G7 X7 B7; have L7 := Aside0.mk (L.out.below B7.out); have O7 := Aside0.mk (show One w5 g5 (bst H j) from blk_below O.out B7.out); have Y7 := Aside0.mk (blk_below X.out B7.out); have B8 := Aside0.mk (below_step B.out B7.out))
          | ((with_reducible refine gate_store (t := 37) (p := 7) rfl ?_); refine store_var rfl 37 (.tmp 7) (.tmp 17) rfl g7 #[.int .i64 ((H (j + 1)).1 : Int), .int .i64 (H (j + 1)).2] _ rfl rfl X7.out sizeW rfl (by simp [Value.oneCell']) ?_; intro w6 X9 E9; have HN7 := Aside0.mk (ls_ne G7.out HG.out.1 HG.out.2.1 HG.out.2.2.1 B.out.size (blk_lt O.out) (blk_lt X.out)); have O9 := Aside0.mk (show One w6 g5 (bst H j) from blk_grown O7.out E9.out (fun e => HN7.out.2.1 (Option.some.inj e))); have Y9 := Aside0.mk (blk_grown Y7.out E9.out (fun e => HN7.out.1 (Option.some.inj e))); have L9 := Aside0.mk (L7.out.grown E9.out (fun e => HN7.out.2.2.1 (Option.some.inj e))); have B9 := Aside0.mk (below_grown B8.out E9.out HN7.out.2.2.2 B8.out.size))
          | ((with_reducible refine gate_dst (N := 19) rfl ?_); refine wpList_load_row rfl 37 (.tmp 7) rfl g7 rfl 37 #[.int .i64 ((H (j + 1)).1 : Int), .int .i64 (H (j + 1)).2] (0, 0) _ X9.out Try.underlying37 rfl sizeW ?_)
          | ((with_reducible refine gate_dst (N := 20) rfl ?_); refine wpList_load_row rfl 37 (.tmp 5) rfl g5 rfl 37 #[.int .i64 ((bst H j).1 : Int), .int .i64 (bst H j).2] (0, 0) _ O9.out Try.underlying37 rfl sizeW ?_)
          | ((with_reducible refine gate_dst (N := 21) rfl ?_); refine goesV_ (some 21) rfl rfl Try.func14 (by kernel_rfl) rfl rfl rfl #[.agg #[.int .i64 ((H (j + 1)).1 : Int), .int .i64 (H (j + 1)).2], .agg #[.int .i64 ((bst H j).1 : Int), .int .i64 (bst H j).2]] (by simp [go_sem]) ?_; refine (less_calls _ _ _ _ _).mono ?_; rintro e w8 ⟨rfl, hB⟩; refine ⟨_, rfl, ?_⟩; rw [u3]; have O10 := Aside0.mk (show One w8 g5 (bst H j) from blk_below O9.out hB); have Y10 := Aside0.mk (blk_below Y9.out hB); have L10 := Aside0.mk (L9.out.below hB); have X10 := Aside0.mk (blk_below X9.out hB); have B10 := Aside0.mk (below_step B9.out hB); clear hB)
          | ((with_reducible refine gate_dst (N := 22) rfl ?_); refine wpList_load_row rfl 37 (.tmp 7) rfl g7 rfl 37 #[.int .i64 ((H (j + 1)).1 : Int), .int .i64 (H (j + 1)).2] (0, 0) _ X10.out Try.underlying37 rfl sizeW ?_)
          | ((with_reducible refine gate_store (t := 37) (p := 5) rfl ?_); refine store_var rfl 37 (.tmp 5) (.tmp 22) rfl g5 #[.int .i64 ((H (j + 1)).1 : Int), .int .i64 (H (j + 1)).2] _ rfl rfl O10.out sizeW rfl (by simp [Value.oneCell']) ?_; intro w11 O11 E11))
        have Y11 := Aside0.mk (blk_grown Y10.out E11.out (fun e => NE.out (Option.some.inj e)))
        have L11 := Aside0.mk (L10.out.grown E11.out (fun e => ls_ne2 HG.out.2.1 HG.out.2.2.1 (Option.some.inj e)))
        have B11 := Aside0.mk (below_grown B10.out E11.out HG.out.2.1 B10.out.size)
        have O12 := Aside0.mk (show One w11 g5 (bst H (j + 1)) from by rw [HLT.out]; exact O11.out)
        go_roundg q
        case measure => exact Nat.lt_succ_self _
        case rel => exact ⟨j + 1, by rw [HW.out], ⟨by have := HA.out; omega⟩, O12, L11, Y11, B11⟩
      · have u3 : decide ((H (j + 1)).2 < (bst H j).2) = false := decide_eq_false hlt
        have HLT := Aside0.mk (show bst H (j + 1) = bst H j from if_neg hlt)
        clear hlt
        go_wp2_with (first
          | ((with_reducible refine gate_dst (N := 17) rfl ?_); refine load_mid rfl 37 (.tmp 16) rfl (b := gl) (o' := (j + 1) * 2) (cs := wy2 (H (j + 1))) ?_ (L.out.range (x := j + 1) HJ.out rfl) Try.underlying37 rfl sizeW ?_; (case refine_1 => exact ptr_way rfl))
          | ((with_reducible refine gate_dst (N := 7) rfl ?_); refine alloc_var rfl rfl infoW rfl ?_; intro g7 w5 G7 X7 B7; have L7 := Aside0.mk (L.out.below B7.out); have O7 := Aside0.mk (show One w5 g5 (bst H j) from blk_below O.out B7.out); have Y7 := Aside0.mk (blk_below X.out B7.out); have B8 := Aside0.mk (below_step B.out B7.out))
          | ((with_reducible refine gate_store (t := 37) (p := 7) rfl ?_); refine store_var rfl 37 (.tmp 7) (.tmp 17) rfl g7 #[.int .i64 ((H (j + 1)).1 : Int), .int .i64 (H (j + 1)).2] _ rfl rfl X7.out sizeW rfl (by simp [Value.oneCell']) ?_; intro w6 X9 E9; have HN7 := Aside0.mk (ls_ne G7.out HG.out.1 HG.out.2.1 HG.out.2.2.1 B.out.size (blk_lt O.out) (blk_lt X.out)); have O9 := Aside0.mk (show One w6 g5 (bst H j) from blk_grown O7.out E9.out (fun e => HN7.out.2.1 (Option.some.inj e))); have Y9 := Aside0.mk (blk_grown Y7.out E9.out (fun e => HN7.out.1 (Option.some.inj e))); have L9 := Aside0.mk (L7.out.grown E9.out (fun e => HN7.out.2.2.1 (Option.some.inj e))); have B9 := Aside0.mk (below_grown B8.out E9.out HN7.out.2.2.2 B8.out.size))
          | ((with_reducible refine gate_dst (N := 19) rfl ?_); refine wpList_load_row rfl 37 (.tmp 7) rfl g7 rfl 37 #[.int .i64 ((H (j + 1)).1 : Int), .int .i64 (H (j + 1)).2] (0, 0) _ X9.out Try.underlying37 rfl sizeW ?_)
          | ((with_reducible refine gate_dst (N := 20) rfl ?_); refine wpList_load_row rfl 37 (.tmp 5) rfl g5 rfl 37 #[.int .i64 ((bst H j).1 : Int), .int .i64 (bst H j).2] (0, 0) _ O9.out Try.underlying37 rfl sizeW ?_)
          | ((with_reducible refine gate_dst (N := 21) rfl ?_); refine goesV_ (some 21) rfl rfl Try.func14 (by kernel_rfl) rfl rfl rfl #[.agg #[.int .i64 ((H (j + 1)).1 : Int), .int .i64 (H (j + 1)).2], .agg #[.int .i64 ((bst H j).1 : Int), .int .i64 (bst H j).2]] (by simp [go_sem]) ?_; refine (less_calls _ _ _ _ _).mono ?_; rintro e w8 ⟨rfl, hB⟩; refine ⟨_, rfl, ?_⟩; rw [u3]; have O10 := Aside0.mk (show One w8 g5 (bst H j) from blk_below O9.out hB); have Y10 := Aside0.mk (blk_below Y9.out hB); have L10 := Aside0.mk (L9.out.below hB); have X10 := Aside0.mk (blk_below X9.out hB); have B10 := Aside0.mk (below_step B9.out hB); clear hB))
        have O12 := Aside0.mk (show One w8 g5 (bst H (j + 1)) from by rw [HLT.out]; exact O10.out)
        go_roundg q
        case measure => exact Nat.lt_succ_self _
        case rel => exact ⟨j + 1, by rw [HW.out], ⟨by have := HA.out; omega⟩, O12, L10, Y10, B10⟩
end Go.Proofs.Ytdejkajdlflabaa.Hd
/- Parts that cost least, plainly: what the ways are. -/
namespace Go.Proofs.Ytdejkajdlflabaa.Pure
open Go.RowKit Go.Proofs.YtdejkajdlflabaaW.PrintWords Go.Proofs.YtdejkajdlflabaaW.PrintMore Go.Proofs.Ytdejkajdlflabaa.Hd Go.Proofs.Ytdejkajdlflabaa.P Go.Proofs.Ytdejkajdlflabaa.Com Go.Proofs.Ytdejkajdlflabaa.Cn
attribute [local irreducible] W spd lgC
theorem bst_lst (H : Nat → Nat × Int) (k : Nat) : ∀ a, lst (bst H a) ((List.range k).map (fun j => H (a + 1 + j))) = bst H (a + k) := by
  induction k with
  | zero => intro a; rfl
  | succ k ih =>
    intro a
    rw [List.range_succ_eq_map, List.map_cons, List.map_map, lst, Nat.add_zero]
    have h := ih (a + 1)
    rw [show a + (k + 1) = a + 1 + k by omega, ← h]
    rw [show bst H (a + 1) = if (H (a + 1)).2 < (bst H a).2 then H (a + 1) else bst H a from rfl]
    congr 1
    refine List.map_congr_left (fun j _ => ?_)
    show H (a + 1 + (j + 1)) = H (a + 1 + 1 + j)
    congr 1
    omega
theorem bst_pick {z : Nat} (hz : 1 ≤ z) {H : Nat → Nat × Int} {f : Nat → Int} (h : ∀ j, j < z → H j = (z - j, f (z - j))) : bst H (z - 1) = pickP z f := by
  obtain ⟨k, rfl⟩ : ∃ k, z = k + 1 := ⟨z - 1, by omega⟩
  unfold pickP cands
  rw [List.range_succ_eq_map, List.map_cons, List.map_map]
  simp only
  have e := bst_lst H k 0
  rw [Nat.zero_add, Nat.zero_add] at e
  rw [Nat.add_sub_cancel, ← e, show bst H 0 = H 0 from rfl, h 0 (by omega)]
  congr 1
  refine List.map_congr_left (fun j hj => ?_)
  have hj2 := List.mem_range.1 hj
  rw [h (1 + j) (by omega)]
  show (k + 1 - (1 + j), f (k + 1 - (1 + j))) = (k + 1 - (j + 1), f (k + 1 - (j + 1)))
  rw [show 1 + j = j + 1 by omega]
theorem lst_mem (t : List (Nat × Int)) : ∀ b, lst b t = b ∨ lst b t ∈ t := by
  induction t with
  | nil => intro b; exact .inl rfl
  | cons x t ih =>
    intro b
    rw [lst]
    split
    · rcases ih x with h | h
      · exact .inr (by rw [h]; exact List.mem_cons_self ..)
      · exact .inr (List.mem_cons_of_mem _ h)
    · rcases ih b with h | h
      · exact .inl h
      · exact .inr (List.mem_cons_of_mem _ h)
theorem lst_le (t : List (Nat × Int)) : ∀ b, (lst b t).2 ≤ b.2 ∧ ∀ x ∈ t, (lst b t).2 ≤ x.2 := by
  induction t with
  | nil => intro b; exact ⟨Int.le_refl _, fun x hx => by simp at hx⟩
  | cons y t ih =>
    intro b
    rw [lst]
    split
    · rename_i h
      obtain ⟨h1, h2⟩ := ih y
      refine ⟨by omega, fun x hx => ?_⟩
      rcases List.mem_cons.1 hx with rfl | hx
      · exact h1
      · exact h2 x hx
    · rename_i h
      obtain ⟨h1, h2⟩ := ih b
      refine ⟨h1, fun x hx => ?_⟩
      rcases List.mem_cons.1 hx with rfl | hx
      · omega
      · exact h2 x hx
theorem mem_cands {z : Nat} {f : Nat → Int} {p : Nat × Int} : p ∈ cands z f ↔ 1 ≤ p.1 ∧ p.1 ≤ z ∧ p.2 = f p.1 := by
  unfold cands
  rw [List.mem_map]
  constructor
  · rintro ⟨j, hj, rfl⟩
    have := List.mem_range.1 hj
    exact ⟨by show 1 ≤ z - j; omega, by show z - j ≤ z; omega, rfl⟩
  · rintro ⟨h1, h2, h3⟩
    refine ⟨z - p.1, List.mem_range.2 (by omega), ?_⟩
    have e : z - (z - p.1) = p.1 := by omega
    rw [e, ← h3]
theorem pick_spec {z : Nat} (hz : 1 ≤ z) (f : Nat → Int) : (1 ≤ (pickP z f).1 ∧ (pickP z f).1 ≤ z ∧ (pickP z f).2 = f (pickP z f).1) ∧ ∀ n, 1 ≤ n → n ≤ z → (pickP z f).2 ≤ f n := by
  have hm := @mem_cands z f
  unfold pickP
  cases hc : cands z f with
  | nil =>
    have := (hm (p := (1, f 1))).2 ⟨Nat.le_refl _, hz, rfl⟩
    rw [hc] at this
    simp at this
  | cons x t =>
    rw [hc] at hm
    simp only
    constructor
    · apply hm.1
      rcases lst_mem t x with h | h
      · rw [h]; exact List.mem_cons_self ..
      · exact List.mem_cons_of_mem _ h
    · intro n h1 h2
      have h3 := (hm (p := (n, f n))).2 ⟨h1, h2, rfl⟩
      obtain ⟨a, b⟩ := lst_le t x
      rcases List.mem_cons.1 h3 with e | e
      · rw [← e] at a ⊢; exact a
      · exact b _ e
section
variable {most : Nat} {fee : Int}
theorem wayL_drop (bs : List Nat) : ∀ n, n ≤ bs.length → (wayL most fee bs).drop n = wayL most fee (bs.drop n) := by
  induction bs with
  | nil => intro n hn; rw [show n = 0 by simpa using hn]; rfl
  | cons b t ih =>
    intro n hn
    cases n with
    | zero => rfl
    | succ n => rw [List.drop_succ_cons, ← ih n (by simpa using hn), wayL, List.drop_succ_cons]
/-- The way from a place on. -/
def WF (most : Nat) (fee : Int) (bs : List Nat) (x : Nat) : Nat × Int := (wayL most fee (bs.drop x)).headD (0, 0)
theorem wayL_get (bs : List Nat) (n : Nat) (hn : n ≤ bs.length) : (wayL most fee bs).getD n (0, 0) = WF most fee bs n := by
  unfold WF
  rw [← wayL_drop bs n hn, List.getD_eq_getElem?_getD, ← List.head?_drop, List.headD_eq_head?_getD]
theorem WF_end (bs : List Nat) : WF most fee bs bs.length = (0, 0) := by
  unfold WF
  rw [List.drop_length]
  rfl
theorem WF_step (bs : List Nat) {i : Nat} (hi : i < bs.length) : WF most fee bs i = pickP (min most (bs.length - i)) (fun n => costP ((bs.drop i).take n) fee + (WF most fee bs (i + n)).2) := by
  have hd : bs.drop i = bs.getD i 0 :: bs.drop (i + 1) := by
    rw [List.drop_eq_getElem_cons hi, List.getD_eq_getElem?_getD, List.getElem?_eq_getElem hi]; rfl
  have h1 : WF most fee bs i = pickP (min most ((bs.drop (i + 1)).length + 1)) (fun n => costP ((bs.drop i).take n) fee + ((wayL most fee (bs.drop (i + 1))).getD (n - 1) (0, 0)).2) := by
    unfold WF
    rw [hd, wayL]
    rfl
  rw [h1, List.length_drop, show bs.length - (i + 1) + 1 = bs.length - i by omega]
  unfold pickP
  have hc : cands (min most (bs.length - i)) (fun n => costP ((bs.drop i).take n) fee + ((wayL most fee (bs.drop (i + 1))).getD (n - 1) (0, 0)).2) = cands (min most (bs.length - i)) (fun n => costP ((bs.drop i).take n) fee + (WF most fee bs (i + n)).2) := by
    unfold cands
    refine List.map_congr_left (fun j hj => ?_)
    have hj2 := List.mem_range.1 hj
    have hn : 1 ≤ min most (bs.length - i) - j := by omega
    have hn2 : min most (bs.length - i) - j ≤ bs.length - i := by omega
    obtain ⟨n, hnn⟩ : ∃ n, min most (bs.length - i) - j = n := ⟨_, rfl⟩
    rw [hnn] at hn hn2 ⊢
    show (n, costP ((bs.drop i).take n) fee + ((wayL most fee (bs.drop (i + 1))).getD (n - 1) (0, 0)).2) = (n, costP ((bs.drop i).take n) fee + (WF most fee bs (i + n)).2)
    rw [wayL_get _ _ (by rw [List.length_drop]; omega)]
    unfold WF
    rw [List.drop_drop, show i + 1 + (n - 1) = i + n by omega]
  rw [hc]
theorem WF_nonneg (hm : 1 ≤ most) (hf : 0 ≤ fee ∧ fee ≤ 1048576) (bs : List Nat) (hb : ∀ x ∈ bs, x < 256) (hl : bs.length ≤ 4096) (d : Nat) : ∀ i, i ≤ bs.length → bs.length - i ≤ d → 0 ≤ (WF most fee bs i).2 := by
  induction d with
  | zero => intro i hi hd; rw [show i = bs.length by omega, WF_end]; decide
  | succ d ih =>
    intro i hi hd
    by_cases e : i = bs.length
    · rw [e, WF_end]; decide
    rw [WF_step bs (by omega)]
    obtain ⟨⟨a1, a2, a3⟩, _⟩ := pick_spec (z := min most (bs.length - i)) (by omega) (fun n => costP ((bs.drop i).take n) fee + (WF most fee bs (i + n)).2)
    rw [a3]
    obtain ⟨n, hn⟩ : ∃ n, (pickP (min most (bs.length - i)) (fun n => costP ((bs.drop i).take n) fee + (WF most fee bs (i + n)).2)).1 = n := ⟨_, rfl⟩
    rw [hn] at a1 a2 ⊢
    have h1 := cost_bd (bs := (bs.drop i).take n) (fee := fee) (fun x hx => hb x (List.mem_of_mem_drop (List.mem_of_mem_take hx))) (by rw [List.length_take, List.length_drop]; omega) hf
    have h2 := ih (i + n) (by omega) (by omega)
    show 0 ≤ costP ((bs.drop i).take n) fee + (WF most fee bs (i + n)).2
    omega
theorem WF_bd (hm : 1 ≤ most) (hf : 0 ≤ fee ∧ fee ≤ 1048576) (bs : List Nat) (hb : ∀ x ∈ bs, x < 256) (hl : bs.length ≤ 4096) (d : Nat) : ∀ i, i + d = bs.length → (WF most fee bs i).2 ≤ (d : Int) * 1049088 := by
  induction d with
  | zero => intro i hi; rw [show i = bs.length by omega, WF_end]; decide
  | succ d ih =>
    intro i hi
    have hil : i < bs.length := by omega
    rw [WF_step bs hil]
    obtain ⟨_, a4⟩ := pick_spec (z := min most (bs.length - i)) (by omega) (fun n => costP ((bs.drop i).take n) fee + (WF most fee bs (i + n)).2)
    refine Int.le_trans (a4 1 (Nat.le_refl _) (by omega)) ?_
    have h1 := ih (i + 1) (by omega)
    have h3 : ((bs.drop i).take 1).length = 1 := by rw [List.length_take, List.length_drop]; omega
    have h4 : W 1 ≤ 512 := by with_unfolding_all decide
    have h6 : costP ((bs.drop i).take 1) fee ≤ 1049088 := by
      unfold costP
      rw [h3]
      omega
    show costP ((bs.drop i).take 1) fee + (WF most fee bs (i + 1)).2 ≤ _
    have h7 : (((d + 1 : Nat) : Int)) * 1049088 = (d : Int) * 1049088 + 1049088 := by rw [Int.natCast_add, Int.add_mul]; rfl
    omega
end
end Go.Proofs.Ytdejkajdlflabaa.Pure
/- split.Split, walked by hand. -/
namespace Go.Proofs.Ytdejkajdlflabaa.Hd
open Go Go.RowKit Go.Deep Go.Proofs.YtdejkajdlflabaaW.PrintWords Go.Proofs.YtdejkajdlflabaaW.PrintLast Go.Proofs.YtdejkajdlflabaaW.PrintMore Go.Proofs.Ytdejkajdlflabaa.Hw Go.Proofs.Ytdejkajdlflabaa.Com Go.Proofs.Ytdejkajdlflabaa.Cn Go.Proofs.Ytdejkajdlflabaa.P Go.Proofs.Ytdejkajdlflabaa.Pure
attribute [local go_sem] max2_int min2_int max_two min_two max_three min_three max_four min_four
attribute [local irreducible] W spd lgC
def split_Split.f (a0 : ByteArray) (a1 a2 : Int) : Option (List Int × Int × Int) := some (splitP (nb a0) a1 a2)
theorem info3 : (Try.prog.info? 3).map (fun i => (i.zero, i.size, i.bytes)) = some (some (.int .i64 0), 1, 8) := by kernel_rfl
theorem szs_step {m k : Nat} {fee : Int} {bs : List Nat} {i : Nat} (hi : i < bs.length) : szs (k + 1) (wayL m fee (bs.drop i)) = (WF m fee bs i).1 :: szs k ((wayL m fee (bs.drop i)).drop (WF m fee bs i).1) := by
  have hd : bs.drop i = bs.getD i 0 :: bs.drop (i + 1) := by
    rw [List.drop_eq_getElem_cons hi, List.getD_eq_getElem?_getD, List.getElem?_eq_getElem hi]; rfl
  have hl := wayL_length m fee (bs.drop (i + 1))
  unfold WF
  rw [hd, wayL]
  cases hw : wayL m fee (bs.drop (i + 1)) with
  | nil => rw [hw] at hl; simp at hl
  | cons v t => rfl
theorem szs_end {m k : Nat} {fee : Int} {bs : List Nat} {i : Nat} (hi : bs.length ≤ i) : szs k (wayL m fee (bs.drop i)) = [] := by
  rw [List.drop_eq_nil_of_le hi]
  cases k <;> rfl
theorem sp_row {q n0 : Nat} {G : Nat → Nat × Int} (x : Nat) : (if x = q then wy2 (G q) else wy2 (if x < q + 1 then (0, 0) else G x)) = wy2 (if x < q then (0, 0) else G x) := by
  by_cases e : x = q
  · subst e; rw [if_pos rfl, if_neg (by omega)]
  · rw [if_neg e]
    by_cases h : x < q
    · have h2 : x < q + 1 := by omega
      rw [if_pos h, if_pos h2]
    · have h2 : ¬ x < q + 1 := by omega
      rw [if_neg h, if_neg h2]
theorem sp_facts {q m sz n0 : Nat} {most : Int} (hm : most = (m : Int)) (hm1 : 1 ≤ m) (hq : q < sz) (hs : sz ≤ 4096) (hn : n0 = sz + 1) : ∃ z : Nat, (if ((sz - q : Nat) : Int) < most then ((sz - q : Nat) : Int) else most) = (z : Int) ∧ z = min m (sz - q) ∧ z ≤ sz - q ∧ 1 ≤ z ∧ z ≤ 100000 ∧ q < n0 := by
  refine ⟨min m (sz - q), ?_, rfl, by omega, by omega, by omega, by omega⟩
  subst hm
  split <;> omega
theorem WFB {m : Nat} {fee : Int} (hm : 1 ≤ m) (hf : 0 ≤ fee ∧ fee ≤ 1048576) (bs : List Nat) (hb : ∀ x ∈ bs, x < 256) (hl : bs.length ≤ 4096) (q x : Nat) : 0 ≤ (if x < q then ((0, 0) : Nat × Int) else WF m fee bs x).2 ∧ (if x < q then ((0, 0) : Nat × Int) else WF m fee bs x).2 ≤ 1099511627776 := by
  split
  · exact ⟨Int.le_refl _, by decide⟩
  · by_cases h : x ≤ bs.length
    · have h1 := WF_nonneg hm hf bs hb hl bs.length x h (by omega)
      have h2 := WF_bd hm hf bs hb hl (bs.length - x) x (by omega)
      omega
    · have e : WF m fee bs x = (0, 0) := by
        unfold WF
        rw [List.drop_eq_nil_of_le (by omega)]
        rfl
      rw [e]
      exact ⟨Int.le_refl _, by decide⟩
theorem sp_bst {m q sz z : Nat} {fee : Int} {bs : List Nat} (hl : bs.length = sz) (hq : q < sz) (hz : z = min m (sz - q)) (hz1 : 1 ≤ z) : bst (frP (bs.drop q) fee (fun n => (if q + n < q + 1 then ((0, 0) : Nat × Int) else WF m fee bs (q + n)).2) z) (z - 1) = WF m fee bs q := by
  rw [WF_step bs (by omega), hl, ← hz]
  refine bst_pick hz1 (fun j hj => ?_)
  unfold frP
  simp only
  rw [if_neg (by omega)]
theorem sp_size {m i sz : Nat} {fee : Int} {bs : List Nat} (hl : bs.length = sz) (hi : i < sz) (hm : 1 ≤ m) : 1 ≤ (WF m fee bs i).1 ∧ i + (WF m fee bs i).1 ≤ sz := by
  rw [WF_step bs (by omega)]
  obtain ⟨⟨h1, h2, _⟩, _⟩ := pick_spec (z := min m (bs.length - i)) (by omega) (fun n => costP ((bs.drop i).take n) fee + (WF m fee bs (i + n)).2)
  exact ⟨h1, by omega⟩
theorem sp_len {xl i sz : Nat} (h : xl ≤ i) (hi : i ≤ sz) (hs : sz ≤ 4096) : (xl + 1) * 8 ≤ 140737488355328 := by omega
theorem sp_left {i p q sz : Nat} (h : sz - i ≤ q + 1) (hp : 1 ≤ p) : sz - (i + p) ≤ q := by omega
theorem sp_cnt {xs : List Int} {i p : Nat} (h : xs.length ≤ i) (hp : 1 ≤ p) : (xs ++ [(p : Int)]).length ≤ i + p := by rw [List.length_append, List.length_singleton]; omega
theorem sp_dec {q sz : Nat} (hq : q < sz) (hs : sz ≤ 4096) : wrap64 ((q : Int) - 1) = (q : Int) - 1 := w64 (by omega) (by omega)
theorem sp_add {i p sz : Nat} (h : i + p ≤ sz) (hs : sz ≤ 4096) : wrap64 ((i : Int) + (p : Int)) = ((i + p : Nat) : Int) := by rw [w64 (by omega) (by omega)]; omega
set_option maxHeartbeats 16000000 in
set_option maxRecDepth 100000 in
theorem split_Split.calls (a0 : ByteArray) (a1 a2 : Int) (r1 : List Int) (r2 r3 : Int) (w : World) (h : split_Split.f a0 a1 a2 = some (r1, r2, r3)) :
    Calls Try.prog 6 #[.string a0, .int .i64 a1, .int .i64 a2] w fun e w' => ∃ v0_ : Value, e = .returned (.tuple #[v0_, .int .i64 r2, .int .i64 r3]) ∧ Kd.R (Kd.int .i64) 3 w' w.heap.size (fun _ => True) v0_ r1 ∧ Below w.heap.size w w' := by
  unfold split_Split.f at h
  have hsp := Option.some.inj h
  clear h
  have hbad : mayB (nb a0).length a1 a2 = false → (r1 = [] ∧ r2 = 0 ∧ r3 = 1) := fun hm => by
    unfold splitP at hsp
    rw [if_neg (by rw [hm]; decide)] at hsp
    injection hsp with e1 e2
    injection e2 with e2 e3
    exact ⟨e1.symm, e2.symm, e3.symm⟩
  have hl := nb_length a0
  by_cases g1 : a1 < 1
  · have t1 : decide (a1 < 1) = true := decide_eq_true g1
    obtain ⟨rfl, rfl, rfl⟩ := hbad (by unfold mayB; rw [t1]; rfl)
    clear hsp hbad hl g1
    go_enter Try.func6, Try.ntmps6
    go_wp2
    go_ret3
    exact ⟨_, rfl, Kd.R_nil _ _ _ _ _, Below.refl _ _⟩
  have t1 : decide (a1 < 1) = false := decide_eq_false g1
  by_cases g2 : 65536 < a1
  · have t2 : decide (65536 < a1) = true := decide_eq_true g2
    obtain ⟨rfl, rfl, rfl⟩ := hbad (by unfold mayB; rw [t1, t2]; rfl)
    clear hsp hbad hl g1 g2
    go_enter Try.func6, Try.ntmps6
    go_wp2
    go_ret3
    exact ⟨_, rfl, Kd.R_nil _ _ _ _ _, Below.refl _ _⟩
  have t2 : decide (65536 < a1) = false := decide_eq_false g2
  by_cases g3 : a2 < 0
  · have t3 : decide (a2 < 0) = true := decide_eq_true g3
    obtain ⟨rfl, rfl, rfl⟩ := hbad (by unfold mayB; rw [t1, t2, t3]; rfl)
    clear hsp hbad hl g1 g2 g3
    go_enter Try.func6, Try.ntmps6
    go_wp2
    go_ret3
    exact ⟨_, rfl, Kd.R_nil _ _ _ _ _, Below.refl _ _⟩
  have t3 : decide (a2 < 0) = false := decide_eq_false g3
  by_cases g4 : 1048576 < a2
  · have t4 : decide (1048576 < a2) = true := decide_eq_true g4
    obtain ⟨rfl, rfl, rfl⟩ := hbad (by unfold mayB; rw [t1, t2, t3, t4]; rfl)
    clear hsp hbad hl g1 g2 g3 g4
    go_enter Try.func6, Try.ntmps6
    go_wp2
    go_ret3
    exact ⟨_, rfl, Kd.R_nil _ _ _ _ _, Below.refl _ _⟩
  have t4 : decide (1048576 < a2) = false := decide_eq_false g4
  by_cases g5 : 4096 < a0.size
  · have t5 : decide (4096 < a0.size) = true := decide_eq_true g5
    have t6 : decide (4096 < (a0.size : Int)) = true := decide_eq_true (by omega)
    obtain ⟨rfl, rfl, rfl⟩ := hbad (by unfold mayB; rw [hl, t1, t2, t3, t4, t5]; rfl)
    clear hsp hbad hl g1 g2 g3 g4 g5
    go_enter Try.func6, Try.ntmps6
    go_wp2
    go_ret3
    exact ⟨_, rfl, Kd.R_nil _ _ _ _ _, Below.refl _ _⟩
  have t5 : decide (4096 < a0.size) = false := decide_eq_false g5
  have t6 : decide (4096 < (a0.size : Int)) = false := decide_eq_false (by omega)
  obtain ⟨m, hm⟩ : ∃ m : Nat, a1 = m := ⟨a1.toNat, by omega⟩
  have hgood : splitP (nb a0) a1 a2 = ((szs (nb a0).length (wayL m a2 (nb a0))).map (fun n : Nat => (n : Int)), ((wayL m a2 (nb a0)).headD (0, 0)).2, 0) := by
    unfold splitP mayB
    rw [hl, t1, t2, t3, t4, t5, if_pos (by rfl), hm, Int.toNat_natCast]
  rw [hgood] at hsp
  obtain ⟨bs, hbs⟩ : ∃ bs, nb a0 = bs := ⟨_, rfl⟩
  rw [hbs] at hsp hl
  obtain ⟨sz, hsz⟩ : ∃ sz, a0.size = sz := ⟨_, rfl⟩
  rw [hsz] at hl t5 t6
  obtain ⟨n0, hn0⟩ : ∃ n0, n0 = sz + 1 := ⟨_, rfl⟩
  have HS := Aside0.mk (show bs.length = sz ∧ sz ≤ 4096 ∧ n0 = sz + 1 ∧ a1 = (m : Int) ∧ 1 ≤ m from ⟨hl, by omega, hn0, hm, by omega⟩)
  have HF := Aside0.mk (show 0 ≤ a2 ∧ a2 ≤ 1048576 by omega)
  have HB := Aside0.mk (show (∀ x ∈ bs, x < 256) ∧ nb a0 = bs from ⟨by rw [← hbs]; exact nb_lt a0, hbs⟩)
  have HR := Aside0.mk hsp
  have e1 : wrap64 ((sz : Int) + 1) = (n0 : Int) := by rw [w64 (by omega) (by omega)]; omega
  have e2 : wrap64 ((sz : Int) - 1) = (sz : Int) - 1 := w64 (by omega) (by omega)
  have HZ := Aside0.mk hsz
  clear hsp hbad hl g1 g2 g3 g4 g5 hm hgood hbs hn0
  go_enter Try.func6, Try.ntmps6
  go_wp2_with (first
    | ((with_reducible refine gate_dst (N := 35) rfl ?_); refine make_rec rfl rfl n0 (congrArg (Value.int .i64) e1) (congrArg (Value.int .i64) e1) Try.underlying35 (.agg #[.int .i64 0, .int .i64 0]) (wy2 (0, 0)) infoW rfl (by decide) (by have := HS.out; omega) (by have := HS.out; omega) ?_; intro gw w1 G1 V1 B1))
  have V2 := Aside0.mk (show Rec w1 gw 37 2 n0 (fun x => wy2 (if x < sz then (0, 0) else WF m a2 bs x)) from V1.out.congr (fun x hx => by
    by_cases e : x < sz
    · rw [if_pos e]
    · rw [if_neg e, show x = bs.length by have := HS.out; omega, WF_end]))
  clear V1 e1
  go_loopg [10] sz (fun q v10 w' => ∃ v : Int, v10 = .int .i64 v ∧ Aside0 (v = (q : Int) - 1 ∧ q ≤ sz) ∧ Aside0 (Rec w' gw 37 2 n0 (fun x => wy2 (if x < q then (0, 0) else WF m a2 bs x))) ∧ Aside0 (Below w.heap.size w w'))
  case atStart => exact ⟨(sz : Int) - 1, by rw [e2], ⟨rfl, Nat.le_refl _⟩, V2, B1⟩
  case round =>
    clear V2 B1 e2
    obtain ⟨v, rfl, HA, V, B⟩ := hrel
    cases gk with
    | succ q =>
      have hv : v = (q : Int) := by have := HA.out; omega
      subst hv
      have u1 : decide (0 ≤ (q : Int)) = true := decide_eq_true (Int.natCast_nonneg _)
      obtain ⟨z, hz1, hz2, hz3, hz4, hz5, hq0⟩ := sp_facts (most := a1) HS.out.2.2.2.1 HS.out.2.2.2.2 (show q < sz from HA.out.2) HS.out.2.1 HS.out.2.2.1
      have HQ := Aside0.mk (show q < sz ∧ z ≤ sz - q ∧ 1 ≤ z ∧ z ≤ 100000 ∧ q < n0 from ⟨HA.out.2, hz3, hz4, hz5, hq0⟩)
      have HZ1 := Aside0.mk (show (if ((a0.size - q : Nat) : Int) < a1 then ((a0.size - q : Nat) : Int) else a1) = (z : Int) from by rw [HZ.out]; exact hz1)
      have HFB := Aside0.mk (show ∀ x, 0 ≤ (if x < q + 1 then ((0, 0) : Nat × Int) else WF m a2 bs x).2 ∧ (if x < q + 1 then ((0, 0) : Nat × Int) else WF m a2 bs x).2 ≤ 1099511627776 from WFB HS.out.2.2.2.2 HF.out bs HB.out.1 (by rw [HS.out.1]; exact HS.out.2.1) (q + 1))
      have HBW := Aside0.mk (show bst (frP (bs.drop q) a2 (fun n => (if q + n < q + 1 then ((0, 0) : Nat × Int) else WF m a2 bs (q + n)).2) z) (z - 1) = WF m a2 bs q from sp_bst HS.out.1 HQ.out.1 hz2 hz4)
      have p1 : (0 ≤ (q : Int)) = True := eq_true (Int.natCast_nonneg _)
      have p2 : ((q : Int) < (n0 : Int)) = True := eq_true (Int.ofNat_lt.2 hq0)
      have p3 : (q < n0) = True := eq_true hq0
      clear hz1 hz2 hz3 hz4 hz5 hq0
      go_wp2_with (first
        | (go_at_call 13; (with_reducible refine (from_calls a0 q gw n0 z a1 a2 (fun x => if x < q + 1 then (0, 0) else WF m a2 bs x) _ V.out (by rw [HZ.out]; exact HS.out.2.2.1) (by rw [HZ.out]; exact HQ.out.1) (by rw [HZ.out]; exact HS.out.2.1) HZ1.out (by rw [HZ.out]; exact HQ.out.2.1) HF.out HFB.out).mono ?_); rintro e w2 ⟨gl, rfl, -, hL, hB⟩; rw [HB.out.2] at hL; have L2 := Aside0.mk hL; have V2 := Aside0.mk (V.out.below hB); have B2 := Aside0.mk (below_step B.out hB); clear hL hB)
        | (go_at_call 12; (with_reducible refine (least_calls gl z _ _ L2.out HQ.out.2.2.1 HQ.out.2.2.2.1).mono ?_); rintro e w3 ⟨rfl, hB⟩; rw [HBW.out]; have V3 := Aside0.mk (V2.out.below hB); have B3 := Aside0.mk (below_step B2.out hB); clear hB)
        | ((with_reducible refine gate_store (t := 37) (p := 52) rfl ?_); refine store_rec rfl 37 (.tmp 52) (.tmp 51) rfl V3.out q HQ.out.2.2.2.2 (wy2 (WF m a2 bs q)) ?_ rfl sizeW rfl (by intro u hu; simp [wy2] at hu; rcases hu with rfl | rfl <;> rfl) ?_; (case refine_1 => first | (go_simp; done) | (go_simp; rfl) | rfl); intro w4 V4 E4))
      have V5 := Aside0.mk (V4.out.congr (fun x _ => sp_row (q := q) (n0 := n0) (G := fun x => WF m a2 bs x) x))
      have B5 := Aside0.mk (below_grown B3.out E4.out G1.out B3.out.size)
      go_roundg q
      case measure => exact Nat.lt_succ_self _
      case rel => exact ⟨(q : Int) - 1, by rw [sp_dec HQ.out.1 HS.out.2.1], ⟨rfl, Nat.le_of_lt HQ.out.1⟩, V5, B5⟩
    | zero =>
      have u1 : decide (0 ≤ v) = false := decide_eq_false (by have := HA.out; omega)
      have V2 := Aside0.mk (show Rec wr gw 37 2 n0 (fun x => wy2 (WF m a2 bs x)) from V.out.congr (fun x _ => by rw [if_neg (Nat.not_lt_zero _)]))
      clear V
      go_wp2
      obtain ⟨tot, htot⟩ : ∃ tot, (szs bs.length (wayL m a2 bs)).map (fun n : Nat => (n : Int)) = tot := ⟨_, rfl⟩
      have HT := Aside0.mk (show tot = r1 ∧ (WF m a2 bs 0).2 = r2 ∧ (0 : Int) = r3 from by
        have h := HR.out
        rw [htot] at h
        injection h with h1 h2
        injection h2 with h2 h3
        exact ⟨h1, h2, h3⟩)
      have HT0 := Aside0.mk (show ([] : List Int) ++ (szs sz (wayL m a2 (bs.drop 0))).map (fun n : Nat => (n : Int)) = tot from by rw [List.nil_append, List.drop_zero, ← HS.out.1]; exact htot)
      have R2 := Aside0.mk (Kd.R_nil (Kd.int .i64) 3 wr w.heap.size (fun _ => True))
      clear htot
      go_loopg [11, 12] sz (fun q v11 v12 w' => ∃ (A : Option Addr) (cc : Nat) (xs : List Int) (i : Nat), v11 = .slice A xs.length cc ∧ v12 = .int .i64 (i : Int) ∧ Aside0 (i ≤ sz ∧ sz - i ≤ q ∧ xs.length ≤ i ∧ xs ++ (szs q (wayL m a2 (bs.drop i))).map (fun n : Nat => (n : Int)) = tot) ∧ Aside0 (Kd.R (Kd.int .i64) 3 w' w.heap.size (fun _ => True) (.slice A xs.length cc) xs) ∧ Aside0 (Rec w' gw 37 2 n0 (fun x => wy2 (WF m a2 bs x))) ∧ Aside0 (Below w.heap.size w w'))
      case atStart => exact ⟨none, 0, [], 0, rfl, rfl, ⟨Nat.zero_le _, by omega, Nat.le_refl _, HT0.out⟩, R2, V2, B⟩
      case round =>
        clear R2 V2 B HT0
        obtain ⟨A, cc, xs, i, rfl, rfl, HI, R, V, B⟩ := hrel
        by_cases hlt : i < sz
        · have w1' : decide ((i : Int) < (sz : Int)) = true := decide_eq_true (Int.ofNat_lt.2 hlt)
          have w2' : decide (i < sz) = true := decide_eq_true hlt
          cases gk with
          | zero => have := HI.out.2.1; omega
          | succ q =>
            obtain ⟨p, hp⟩ : ∃ p, (WF m a2 bs i).1 = p := ⟨_, rfl⟩
            have hps := sp_size (fee := a2) HS.out.1 hlt HS.out.2.2.2.2
            rw [hp] at hps
            have HP := Aside0.mk (show i < sz ∧ 1 ≤ p ∧ i + p ≤ sz ∧ i < n0 ∧ (WF m a2 bs i).1 = p from ⟨hlt, hps.1, hps.2, by rw [HS.out.2.2.1]; exact Nat.lt_succ_of_lt hlt, hp⟩)
            have hst := HI.out.2.2.2
            rw [szs_step (by rw [HS.out.1]; exact hlt), hp, wayL_drop _ _ (by rw [List.length_drop, HS.out.1]; omega), List.drop_drop, List.map_cons] at hst
            have HST := Aside0.mk (show (xs ++ [(p : Int)]) ++ (szs q (wayL m a2 (bs.drop (i + p)))).map (fun n : Nat => (n : Int)) = tot from by rw [List.append_assoc]; exact hst)
            have hcw := way_c0 V.out HP.out.2.2.2.1 hp
            have x1 : (0 ≤ (i : Int)) = True := eq_true (Int.natCast_nonneg _)
            have x2 : ((i : Int) < (n0 : Int)) = True := eq_true (Int.ofNat_lt.2 HP.out.2.2.2.1)
            have x3 : (i < n0) = True := eq_true HP.out.2.2.2.1
            have HXL := Aside0.mk (show (xs.length + 1) * 8 ≤ 140737488355328 from sp_len HI.out.2.2.1 HI.out.1 HS.out.2.1)
            clear hp hps hst hlt
            go_wp2_with (first
              | ((with_reducible refine gate_builtin (b := .append) (xs := #[.tmp 64, .tmp 70]) rfl ?_); at_builtin; refine Kd.R_append (Kd.int .i64) (w0 := w) w.heap.size rfl (.tmp 64) (.tmp 70) 23 3 (.int .i64 0) 8 rfl Try.underlying23 info3 rfl (by decide) (by decide) (.slice A xs.length cc) xs (p : Int) [.int .i64 (p : Int)] (fun _ => True) (fun _ => False) rfl (by first | (go_simp; done) | (go_simp; rfl)) ?aP (fun _ hk => hk.elim) ?aF ?aO ?aB ?aS ?aL ?_; (case aP => exact rfl); (case aF => exact (fun _ _ => trivial)); (case aO => exact R.out); (case aB => exact B.out); (case aS => exact B.out.size); (case aL => exact HXL.out); intro v1 w5 ho5 hb5 hg5 ha5; obtain ⟨A3, c3, e3⟩ := Kd.R_slice ho5; subst e3; have V5 := Aside0.mk (V.out.grown hg5 (Kd.R_ne R.out V.out (by decide))); have O5 := Aside0.mk ho5; have B5 := Aside0.mk hb5; have hcw5 := way_c0 V5.out HP.out.2.2.2.1 HP.out.2.2.2.2; clear ho5 hb5 hg5 ha5))
            go_roundg q
            case measure => exact Nat.lt_succ_self _
            case rel => exact ⟨A3, c3, xs ++ [(p : Int)], i + p, by rw [List.length_append, List.length_singleton], by rw [sp_add HP.out.2.2.1 HS.out.2.1], ⟨HP.out.2.2.1, sp_left HI.out.2.1 HP.out.2.1, sp_cnt HI.out.2.2.1 HP.out.2.1, HST.out⟩, O5, V5, B5⟩
        · have w1' : decide ((i : Int) < (sz : Int)) = false := decide_eq_false (fun h => hlt (Int.ofNat_lt.1 h))
          have w2' : decide (i < sz) = false := decide_eq_false hlt
          have hst := HI.out.2.2.2
          rw [szs_end (by rw [HS.out.1]; omega), List.map_nil, List.append_nil] at hst
          have HX := Aside0.mk hst
          have hc0 : wr.cell? ⟨gw, 1, none⟩ = some (.int .i64 (WF m a2 bs 0).2) := by
            have h := way_c1 (x := 0) V.out (by rw [HS.out.2.2.1]; omega) rfl
            rw [Nat.zero_mul, Nat.zero_add] at h
            exact h
          have x2 : ((0 : Int) < (n0 : Int)) = True := eq_true (by rw [HS.out.2.2.1]; omega)
          have x3 : (0 < n0) = True := eq_true (by rw [HS.out.2.2.1]; omega)
          clear hst hlt
          go_wp2
          go_quiet (fail)
          go_wp2
          go_ret3
          have hh := HX.out
          obtain ⟨h1, h2, h3⟩ := HT.out
          rw [← h1, ← h2, ← h3, ← hh]
          exact ⟨_, rfl, Kd.R_below R.out (pw_below_drewN (Below.refl _ _) nq), below_step B.out (pw_below_drewN (Below.refl _ _) nq)⟩
end Go.Proofs.Ytdejkajdlflabaa.Hd
