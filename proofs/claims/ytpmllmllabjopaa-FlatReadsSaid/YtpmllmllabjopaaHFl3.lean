/- flat's functions where there is no table or no reader; words for the laws of chapter 10. -/
import Derived.Test.YtpmllmllabjopaaHFl2
set_option linter.unusedVariables false
set_option linter.unusedSimpArgs false
set_option linter.unusedSectionVars false
namespace Go.Proofs.Ytpmllmllabjopaa.Hd
open Go Go.RowKit Go.Deep Go.Proofs.YtpmllmllabjopaaW.PrintWords Go.Proofs.YtpmllmllabjopaaW.PrintLast Go.Proofs.YtpmllmllabjopaaW.PrintMore Go.Proofs.Ytpmllmllabjopaa.Hw Go.Proofs.Ytpmllmllabjopaa.Com Go.Proofs.Ytpmllmllabjopaa.Cn Go.Proofs.Ytpmllmllabjopaa.P Go.Proofs.Ytpmllmllabjopaa.Pure
attribute [local go_sem] max2_int min2_int max_two min_two max_three min_three max_four min_four
set_option maxHeartbeats 2000000 in
set_option maxRecDepth 100000 in
theorem Size_nil (w : World) : Calls Try.prog 10 #[.pointer none] w fun e w' => e = .returned (.int .i64 0) ∧ Drawn0 w w' := by
  go_enter Try.func10, Try.ntmps10
  go_wp2
  go_ret
  exact ⟨rfl, by repeat (first | exact Drawn0.refl _ | apply Drawn0.step)⟩
set_option maxHeartbeats 2000000 in
set_option maxRecDepth 100000 in
theorem Size_at (w : World) {g b M : Nat} {m : Int} {f : Nat → Nat × Nat} (hT : TabS w g b M m f) : Calls Try.prog 10 #[.pointer (some ⟨g, 0, none⟩)] w fun e w' => e = .returned (.int .i64 (M : Int)) ∧ Drawn0 w w' := by
  have hc := (blk_cell hT.1 1).trans (rfl : _ = some (Value.slice (some ⟨b, 0, none⟩) M M))
  clear hT
  go_enter Try.func10, Try.ntmps10
  go_wp2
  go_ret
  exact ⟨rfl, by repeat (first | exact Drawn0.refl _ | apply Drawn0.step)⟩
set_option maxHeartbeats 2000000 in
set_option maxRecDepth 100000 in
theorem Next_none (x : Option Addr) (w : World) : Calls Try.prog 12 #[.pointer none, .pointer x] w fun e w' => e = .returned (.tuple #[.int .i64 0, .int .i64 1]) ∧ Drawn0 w w' := by
  go_enter Try.func12, Try.ntmps12
  go_wp2
  go_ret2
  exact ⟨rfl, by repeat (first | exact Drawn0.refl _ | apply Drawn0.step)⟩
set_option maxHeartbeats 2000000 in
set_option maxRecDepth 100000 in
theorem Next_noreader (g : Nat) (w : World) : Calls Try.prog 12 #[.pointer (some ⟨g, 0, none⟩), .pointer none] w fun e w' => e = .returned (.tuple #[.int .i64 0, .int .i64 1]) ∧ Drawn0 w w' := by
  go_enter Try.func12, Try.ntmps12
  go_wp2
  go_ret2
  exact ⟨rfl, by repeat (first | exact Drawn0.refl _ | apply Drawn0.step)⟩
theorem zs_bytes (s : ByteArray) : bytesOf s = zs (nb s) := by simp [bytesOf, zs, nb]
theorem tab_below {W W1 : World} {g b M : Nat} {m : Int} {f : Nat → Nat × Nat} (h : TabS W g b M m f) (hb : Below W.heap.size W W1) : TabS W1 g b M m f := ⟨blk_below h.1 hb, h.2.below hb⟩
theorem tab_keep {w0 W W1 : World} {g b M gr : Nat} {m : Int} {f : Nat → Nat × Nat} {Bs : List Int} {p : Int} (h : TabS W g b M m f) (hI : IsS54 w0 W gr Bs p) (hK : KeepBut W W1 gr none) : TabS W1 g b M m f :=
  ⟨KeepBut.blk hK h.1 (fun e => hI.ne_blk h.1 (by decide) e.symm) (by simp), h.2.keep hK (fun e => hI.ne_blk h.2 (by decide) e.symm)⟩
/-- Of a call that keeps all but one block, younger than a world: that world stays. -/
theorem below_of_keep {wb W W1 : World} {gr : Nat} (h1 : Below wb.heap.size wb W1) (h0 : Below wb.heap.size wb W) (hg : wb.heap.size ≤ gr) (hK : KeepBut W W1 gr none) : Below wb.heap.size wb W1 := h1
theorem tv_ok {l : List Int} (h : chk l 16 = 0) (x : Nat) (m : Nat) (hm : m ≤ l.length) : (tv l m x).2 ≤ 16 ∧ ((tv l m x).2 = 0 → (tv l m x).1 = 0) := by
  induction m with
  | zero => rw [tv]; exact ⟨by decide, fun _ => rfl⟩
  | succ m ih =>
    rw [tv]
    split
    · rename_i hh
      have h1 := (ln16 (chk_len h).2 (show m < l.length by omega)).1
      have h2 := Pure.ln_pos hh.1
      exact ⟨h1, fun e => by simp only at e; omega⟩
    · exact ih (by omega)
theorem look_nat (e : Nat × Nat) (left : Nat) : ∃ n : Nat, (lookE e left).2.1 = (n : Int) ∧ n ≤ left := by
  unfold lookE
  split
  · exact ⟨0, rfl, Nat.zero_le _⟩
  · split
    · exact ⟨0, rfl, Nat.zero_le _⟩
    · exact ⟨e.2, rfl, by omega⟩
theorem dec_look {l : List Int} {m : Int} (h : chk l m = 0) {B : List Nat} (hB : ∀ x ∈ B, x < 256) (q : Nat) : lookE (tv l l.length (pkv B q m.toNat)) (8 * B.length - q) = decP l ((bb B).drop q) := by
  obtain ⟨_, h2, h16, hlim⟩ := chk_lim h
  have e1 : pkv B q m.toNat = bv ((bb B).drop q) % 2 ^ m.toNat := by unfold pkv; rw [bv_drop, bv_bb B hB]
  have e2 : 8 * B.length - q = ((bb B).drop q).length := by rw [List.length_drop, bb_length]
  rw [e1, e2]
  exact look_dec h16 (by omega) hlim _
theorem dec_nat {l : List Int} {m : Int} (h : chk l m = 0) {B : List Nat} (hB : ∀ x ∈ B, x < 256) (q : Nat) : ∃ n : Nat, (decP l ((bb B).drop q)).2.1 = (n : Int) ∧ n ≤ 8 * B.length - q := by
  rw [← dec_look h hB q]
  exact look_nat _ _
/-- The next symbol is what bit by bit is found. -/
theorem Next_dec (g b gr : Nat) (l : List Int) (m : Int) (M : Nat) (B : List Nat) (q n : Nat) (r1 r3 : Int) (w0 w : World) (hT : TabS w g b M m (tv l l.length)) (hI : IsS54 w0 w gr (zs B) (q : Int)) (hBl : Below w0.heap.size w0 w)
    (hM : M = 2 ^ m.toNat) (he : errN l m = 0) (hB : ∀ x ∈ B, x < 256) (hl : B.length ≤ 1099511627776) (hq : q ≤ 8 * B.length) (hD : decP l ((bb B).drop q) = (r1, (n : Int), r3)) :
    Calls Try.prog 12 #[.pointer (some ⟨g, 0, none⟩), .pointer (some ⟨gr, 0, none⟩)] w fun e w' => e = .returned (.tuple #[.int .i64 r1, .int .i64 r3]) ∧
      IsS54 w0 w' gr (zs B) ((q + n : Nat) : Int) ∧ Below w0.heap.size w0 w' ∧ KeepBut w w' gr none := by
  have hm : 1 ≤ m ∧ m ≤ 15 := by unfold errN at he; split at he <;> omega
  have hc : chk l m = 0 := by unfold errN at he; rwa [if_neg (by omega)] at he
  have hd := dec_look hc hB q
  rw [hD] at hd
  refine (flat_Next.calls g b M gr m (tv l l.length) B q w0 w hT hI hBl hM hm (fun x => tv_ok (chk_lim hc).2.2.1 x _ (Nat.le_refl _)) hB hl hq).mono ?_
  rw [hd]
  rintro e w' ⟨h1, h2, h3, h4⟩
  refine ⟨h1, ?_, h3, h4⟩
  rw [Int.natCast_add]
  exact h2
theorem New_ok (A0 : Option Addr) (n0 c0 : Nat) (l : List Int) (m : Int) (M : Nat) (w : World) (e0 : l.length = n0) (hr0 : Kd.C (Kd.int .i64) w A0 n0 l) (hc0 : n0 ≤ c0) (hl : l.length ≤ 17592186044416) (he : errN l m = 0) (hM : M = 2 ^ m.toNat) :
    Calls Try.prog 6 #[.slice A0 n0 c0, .int .i64 m] w fun e w' => ∃ g b, e = .returned (.tuple #[.pointer (some ⟨g, 0, none⟩), .int .i64 0]) ∧ TabS w' g b M m (tv l l.length) ∧ Below w.heap.size w w' := by
  subst e0; subst hM
  refine (flat_New.calls A0 c0 l m w hr0 hc0 hl).mono ?_
  rintro e w' ⟨hB, ⟨h1, _⟩ | ⟨_, g, b, rfl, _, _, hT⟩⟩
  · exact absurd he h1
  · exact ⟨g, b, rfl, hT, hB⟩
theorem New_err (A0 : Option Addr) (n0 c0 : Nat) (l : List Int) (m t : Int) (w : World) (e0 : l.length = n0) (hr0 : Kd.C (Kd.int .i64) w A0 n0 l) (hc0 : n0 ≤ c0) (hl : l.length ≤ 17592186044416) (he : errN l m = t) (ht : t ≠ 0) :
    Calls Try.prog 6 #[.slice A0 n0 c0, .int .i64 m] w fun e w' => e = .returned (.tuple #[.pointer none, .int .i64 t]) ∧ Below w.heap.size w w' := by
  subst e0; subst he
  refine (flat_New.calls A0 c0 l m w hr0 hc0 hl).mono ?_
  rintro e w' ⟨hB, ⟨_, rfl⟩ | ⟨h1, _⟩⟩
  · exact ⟨rfl, hB⟩
  · exact absurd h1 ht
theorem Reader_new (s : ByteArray) (B : List Nat) (w : World) (hB : nb s = B) (hs : s.size ≤ 17592186044416) :
    Calls Try.prog 8 #[.string s] w fun e w' => ∃ (gr : Nat) (wb : World), e = .returned (.pointer (some ⟨gr, 0, none⟩)) ∧ IsS54 wb w' gr (zs B) ((0 : Nat) : Int) ∧ Below wb.heap.size wb w' ∧ Below w.heap.size w w' ∧ Below w.heap.size w wb := by
  refine (bitr_New.calls s (zs B) 0 w w (Below.refl _ _) ?_).mono ?_
  · unfold bitr_New.f
    rw [if_pos hs, zs_bytes, hB]
  · rintro e w' ⟨gr, wb, rfl, h1, h2, h3, h4⟩
    exact ⟨gr, wb, rfl, h1, h2, h3, h4⟩
theorem lit_event {P : Program} {ops : Array Oper} {rest : List Oper} {o : Oper} {a : Act} {Q : Exit → Act → World → Prop} {W : World} (hgd : o.guard = none) {cs : Array Value} {t : TypeId} {n : Nat}
    (hrun : (execOp a.eval o).run P W = .ok (.value (.slice (some ⟨W.heap.size, 0, none⟩) n n)) (W.alloc (.cells cs t (0, 0))))
    (h : ∀ g w1, Aside0 (w1.heap[g]? = some (.cells cs t (0, 0))) → Aside0 (Below W.heap.size W w1) → wpList P ops Q rest (a.put o.dst (.slice (some ⟨g, 0, none⟩) n n)) w1) : wpList P ops Q (o :: rest) a W :=
  val_event hgd hrun (h _ _ ⟨blk_new W _⟩ ⟨below_alloc (Below.refl _ _) _⟩)
theorem iC {W : World} {g : Nat} {r : List Int} (h : W.heap[g]? = some (.cells (ints .i64 r) 3 (0, 0))) (hm : r.length ≤ maxLen := by decide) : Kd.C (Kd.int .i64) W (some ⟨g, 0, none⟩) r.length r := (Kd.R_reads' (Blk.R (base := 0) h (Nat.zero_le _) hm (fun _ => True) trivial)).2.2
set_option maxHeartbeats 8000000 in
set_option maxRecDepth 100000 in
theorem awake10_calls (w : World) : Calls Try.prog 5 #[] w fun e w' => e = .returned (.bool true) ∧ Below w.heap.size w w' := by
  have E1 := Aside0.mk (show errN [2, 1, 2] 3 = 0 by decide +kernel)
  have E2 := Aside0.mk (show errN [2, 1, 2] 16 = 1 by decide +kernel)
  have E3 := Aside0.mk (show errN [2, 2] 3 = 6 by decide +kernel)
  have E4 := Aside0.mk (show errN [1] 2 = 0 by decide +kernel)
  have D1 := Aside0.mk (show decP [2, 1, 2] ((bb [1]).drop 0) = (0, ((2 : Nat) : Int), 0) by decide +kernel)
  have D2 := Aside0.mk (show decP [2, 1, 2] ((bb [1]).drop (0 + 2)) = (1, ((1 : Nat) : Int), 0) by decide +kernel)
  have D3 := Aside0.mk (show decP [1] ((bb [1]).drop 0) = (0, ((0 : Nat) : Int), 4) by decide +kernel)
  have D4 := Aside0.mk (show decP [2, 1, 2] ((bb []).drop 0) = (0, ((0 : Nat) : Int), 3) by decide +kernel)
  have N1 := Aside0.mk (show nb ⟨#[1]⟩ = [1] by decide)
  have N0 := Aside0.mk (show nb ⟨#[]⟩ = [] by decide)
  go_enter Try.func5, Try.ntmps5
  go_wp2_with (first
    | ((with_reducible refine gate_dst (N := 20) rfl ?_); refine lit_event rfl (cs := #[.int .i64 2, .int .i64 1, .int .i64 2]) (t := 3) (n := 3) ?hr ?_; (case hr => first | (go_simp; done) | (go_simp; rfl)); intro g20 w1 K_ B_; have C20 := Aside0.mk (show Kd.C (Kd.int .i64) w1 (some ⟨g20, 0, none⟩) 3 ([2, 1, 2] : List Int) from iC K_.out); have B1 := Aside0.mk (below_step (Below.refl w.heap.size w) B_.out); clear K_ B_)
    | (go_at_call 6; with_reducible refine (New_ok _ 3 _ [2, 1, 2] 3 8 w1 rfl C20.out (by decide) (by decide) E1.out (by decide)).mono ?_; rintro e w2 ⟨g, b, rfl, hT, hB⟩; have T2 := Aside0.mk hT; have B2 := Aside0.mk (below_step B1.out hB); clear hT hB)
    | ((with_reducible refine gate_dst (N := 25) rfl ?_); refine lit_event rfl (cs := #[.int .i64 2, .int .i64 1, .int .i64 2]) (t := 3) (n := 3) ?hr ?_; (case hr => first | (go_simp; done) | (go_simp; rfl)); intro g25 w3 K_ B_; have C25 := Aside0.mk (show Kd.C (Kd.int .i64) w3 (some ⟨g25, 0, none⟩) 3 ([2, 1, 2] : List Int) from iC K_.out); have T3 := Aside0.mk (tab_below T2.out B_.out); have B3 := Aside0.mk (below_step B2.out B_.out); clear K_ B_)
    | (go_at_call 6; with_reducible refine (New_err _ 3 _ [2, 1, 2] 16 1 w3 rfl C25.out (by decide) (by decide) E2.out (by decide)).mono ?_; rintro e w4 ⟨rfl, hB⟩; have T4 := Aside0.mk (tab_below T3.out hB); have B4 := Aside0.mk (below_step B3.out hB); clear hB)
    | ((with_reducible refine gate_dst (N := 30) rfl ?_); refine lit_event rfl (cs := #[.int .i64 2, .int .i64 2]) (t := 3) (n := 2) ?hr ?_; (case hr => first | (go_simp; done) | (go_simp; rfl)); intro g30 w5 K_ B_; have C30 := Aside0.mk (show Kd.C (Kd.int .i64) w5 (some ⟨g30, 0, none⟩) 2 ([2, 2] : List Int) from iC K_.out); have T5 := Aside0.mk (tab_below T4.out B_.out); have B5 := Aside0.mk (below_step B4.out B_.out); clear K_ B_)
    | (go_at_call 6; with_reducible refine (New_err _ 2 _ [2, 2] 3 6 w5 rfl C30.out (by decide) (by decide) E3.out (by decide)).mono ?_; rintro e w6 ⟨rfl, hB⟩; have T6 := Aside0.mk (tab_below T5.out hB); have B6 := Aside0.mk (below_step B5.out hB); clear hB)
    | (go_at_call 8; with_reducible refine (Reader_new _ [1] w6 N1.out (by decide)).mono ?_; rintro e w7 ⟨gr, wb, rfl, hI, hL, hB, hW⟩; have T7 := Aside0.mk (tab_below T6.out hB); have I7 := Aside0.mk hI; have L7 := Aside0.mk hL; have BW := Aside0.mk (below_step B6.out hW); clear hI hL hB hW)
    | (go_at_call 12; with_reducible refine (Next_dec g b gr [2, 1, 2] 3 8 [1] 0 2 0 0 wb w7 T7.out I7.out L7.out (by decide) E1.out (by decide) (by decide) (by decide) D1.out).mono ?_; rintro e w8 ⟨rfl, hI, hL, hK⟩; have T8 := Aside0.mk (tab_keep T7.out I7.out hK); have I8 := Aside0.mk hI; have L8 := Aside0.mk hL; clear hI hL hK)
    | (go_at_call 12; with_reducible refine (Next_dec g b gr [2, 1, 2] 3 8 [1] (0 + 2) 1 1 0 wb w8 T8.out I8.out L8.out (by decide) E1.out (by decide) (by decide) (by decide) D2.out).mono ?_; rintro e w9 ⟨rfl, hI, hL, hK⟩; have T9 := Aside0.mk (tab_keep T8.out I8.out hK); have I9 := Aside0.mk hI; have L9 := Aside0.mk hL; clear hI hL hK)
    | (go_at_call 13; with_reducible refine (bitr_Reader_At.calls gr (zs [1]) _ _ _ wb w9 I9.out L9.out rfl).mono ?_; rintro e w10 ⟨rfl, hI, hL, hK⟩; have T10 := Aside0.mk (tab_keep T9.out I9.out hK); have B10 := Aside0.mk (rebase_join BW.out hL); clear hI hL hK)
    | ((with_reducible refine gate_dst (N := 50) rfl ?_); refine lit_event rfl (cs := #[.int .i64 1]) (t := 3) (n := 1) ?hr ?_; (case hr => first | (go_simp; done) | (go_simp; rfl)); intro g50 w11 K_ B_; have C50 := Aside0.mk (show Kd.C (Kd.int .i64) w11 (some ⟨g50, 0, none⟩) 1 ([1] : List Int) from iC K_.out); have T11 := Aside0.mk (tab_below T10.out B_.out); have B11 := Aside0.mk (below_step B10.out B_.out); clear K_ B_)
    | (go_at_call 6; with_reducible refine (New_ok _ 1 _ [1] 2 4 w11 rfl C50.out (by decide) (by decide) E4.out (by decide)).mono ?_; rintro e w12 ⟨g2, b2, rfl, hT, hB⟩; have U12 := Aside0.mk hT; have T12 := Aside0.mk (tab_below T11.out hB); have B12 := Aside0.mk (below_step B11.out hB); clear hT hB)
    | (go_at_call 8; with_reducible refine (Reader_new _ [1] w12 N1.out (by decide)).mono ?_; rintro e w13 ⟨gr2, wb2, rfl, hI, hL, hB, hW⟩; have T13 := Aside0.mk (tab_below T12.out hB); have U13 := Aside0.mk (tab_below U12.out hB); have I13 := Aside0.mk hI; have L13 := Aside0.mk hL; have BW2 := Aside0.mk (below_step B12.out hW); clear hI hL hB hW)
    | (go_at_call 12; with_reducible refine (Next_dec g2 b2 gr2 [1] 2 4 [1] 0 0 0 4 wb2 w13 U13.out I13.out L13.out (by decide) E4.out (by decide) (by decide) (by decide) D3.out).mono ?_; rintro e w14 ⟨rfl, hI, hL, hK⟩; have T14 := Aside0.mk (tab_keep T13.out I13.out hK); have B14 := Aside0.mk (rebase_join BW2.out hL); clear hI hL hK)
    | (go_at_call 8; with_reducible refine (Reader_new _ [] w14 N0.out (by decide)).mono ?_; rintro e w15 ⟨gr3, wb3, rfl, hI, hL, hB, hW⟩; have T15 := Aside0.mk (tab_below T14.out hB); have I15 := Aside0.mk hI; have L15 := Aside0.mk hL; have BW3 := Aside0.mk (below_step B14.out hW); clear hI hL hB hW)
    | (go_at_call 12; with_reducible refine (Next_dec g b gr3 [2, 1, 2] 3 8 [] 0 0 0 3 wb3 w15 T15.out I15.out L15.out (by decide) E1.out (by decide) (by decide) (by decide) D4.out).mono ?_; rintro e w16 ⟨rfl, hI, hL, hK⟩; have T16 := Aside0.mk (tab_keep T15.out I15.out hK); have B16 := Aside0.mk (rebase_join BW3.out hL); clear hI hL hK)
    | (go_at_call 10; with_reducible refine (Size_at _ T16.out).mono ?_; rintro e w17 ⟨rfl, hd⟩; have B17 := Aside0.mk (below_step B16.out hd.below); clear hd))
  go_ret
  exact ⟨rfl, B17.out⟩
end Go.Proofs.Ytpmllmllabjopaa.Hd
