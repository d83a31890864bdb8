/- Chapter 59's example, walked by hand (printed by a program of this session's own). -/
import Derived.Test.YtoondlhlcmjniaaZHTnG
import Derived.Test.YtoondlhlcmjniaaZPx3
import Derived.Test.YtoondlhlcmjniaaZPx4
set_option linter.unusedVariables false
set_option linter.unusedSimpArgs false
set_option linter.unusedSectionVars false
namespace Go.Proofs.Ytoondlhlcmjniaa.Hd
open Go.RowKit Go.Proofs.YtoondlhlcmjniaaW.PrintWords Go.Proofs.YtoondlhlcmjniaaW.PrintLast Go.Proofs.YtoondlhlcmjniaaW.PrintMore Go.Proofs.Ytoondlhlcmjniaa.Hw Go.Proofs.Ytoondlhlcmjniaa.Com Go.Proofs.Ytoondlhlcmjniaa.P
theorem lit_event {P : Program} {ops : Array Oper} {rest : List Oper} {o : Oper} {a : Act} {Q : Exit → Act → World → Prop} {W : World} (hgd : o.guard = none) {cs : Array Value} {t : TypeId} {n : Nat}
    (hrun : (execOp a.eval o).run P W = .ok (.value (.slice (some ⟨W.heap.size, 0, none⟩) n n)) (W.alloc (.cells cs t (0, 0))))
    (h : ∀ g w1, Aside0 (w1.heap[g]? = some (.cells cs t (0, 0))) → Aside0 (Below W.heap.size W w1) → wpList P ops Q rest (a.put o.dst (.slice (some ⟨g, 0, none⟩) n n)) w1) : wpList P ops Q (o :: rest) a W :=
  val_event hgd hrun (h _ _ ⟨blk_new W _⟩ ⟨below_alloc (Below.refl _ _) _⟩)
theorem iC {W : World} {g : Nat} {r : List Int} (h : W.heap[g]? = some (.cells (ints .i64 r) 3 (0, 0))) (hm : r.length ≤ maxLen := by decide) : Kd.C (Kd.int .i64) W (some ⟨g, 0, none⟩) r.length r := (Kd.R_reads' (Blk.R (base := 0) h (Nat.zero_le _) hm (fun _ => True) trivial)).2.2
end Go.Proofs.Ytoondlhlcmjniaa.Hd
namespace Go.Proofs.Ytoondlhlcmjniaa.P
open Go.RowKit Go.Proofs.YtoondlhlcmjniaaW.PrintWords Go.Proofs.YtoondlhlcmjniaaW.PrintLast Go.Proofs.YtoondlhlcmjniaaW.PrintMore Go.Proofs.Ytoondlhlcmjniaa.Hw Go.Proofs.Ytoondlhlcmjniaa.Com Go.Proofs.Ytoondlhlcmjniaa.Hd
attribute [local go_sem] max2_int min2_int max_two min_two max_three min_three max_four min_four
theorem enc_at (A0 : Option Addr) (n0 c0 : Nat) (A1 : Option Addr) (n1 c1 : Nat) (l0 l1 : List Int) (n : Int) (r1 : ByteArray) (r2 : Int) (w : World) (e0 : l0.length = n0) (e1 : l1.length = n1) (hr0 : Kd.C (Kd.int .i64) w A0 n0 l0) (hr1 : Kd.C (Kd.int .i64) w A1 n1 l1) (hc0 : n0 ≤ c0) (hc1 : n1 ≤ c1) (h : tans_Encode.f l0 l1 n = some (r1, r2)) :
    Calls Try.prog 14 #[.slice A0 n0 c0, .slice A1 n1 c1, .int .i64 n] w fun e w' => e = .returned (.tuple #[.string r1, .int .i64 r2]) ∧ Below w.heap.size w w' := by
  subst e0; subst e1
  exact tans_Encode.calls A0 c0 l0 A1 c1 l1 n r1 r2 w hr0 hc0 hr1 hc1 h
theorem dec_at (a0 : ByteArray) (m1 : Int) (A1 : Option Addr) (n1 c1 m : Nat) (l1 : List Int) (n : Int) (r1 : List Int) (r2 : Int) (w : World) (e1 : l1.length = n1) (em : r1.length = m) (hr1 : Kd.C (Kd.int .i64) w A1 n1 l1) (hc1 : n1 ≤ c1) (h : tans_Decode.f a0 m1 l1 n = some (r1, r2)) :
    Calls Try.prog 12 #[.string a0, .int .i64 m1, .slice A1 n1 c1, .int .i64 n] w fun e w' => ∃ (A : Option Addr) (c : Nat), e = .returned (.tuple #[.slice A m c, .int .i64 r2]) ∧ m ≤ c ∧ Kd.C (Kd.int .i64) w' A m r1 ∧ Below w.heap.size w w' := by
  subst e1; subst em
  refine (tans_Decode.calls a0 m1 A1 c1 l1 n r1 r2 w hr1 hc1 h).mono ?_
  rintro e w' ⟨v, rfl, hR, hB⟩
  obtain ⟨A, c, rfl, hl, hC⟩ := Kd.R_reads hR
  exact ⟨A, c, rfl, hl, hC, hB⟩
theorem nrm_at (k : Unit) (A1 : Option Addr) (n1 c1 m : Nat) (l1 : List Int) (n : Int) (r1 : List Int) (r2 : Int) (w : World) (e1 : l1.length = n1) (em : r1.length = m) (hr1 : Kd.C (Kd.int .i64) w A1 n1 l1) (hc1 : n1 ≤ c1) (h : tans_Norm.f 60 l1 n = some (r1, r2)) :
    Calls Try.prog 7 #[.slice A1 n1 c1, .int .i64 n] w fun e w' => ∃ (A : Option Addr) (c : Nat), e = .returned (.tuple #[.slice A m c, .int .i64 r2]) ∧ m ≤ c ∧ Kd.C (Kd.int .i64) w' A m r1 ∧ Below w.heap.size w w' := by
  subst e1; subst em
  refine (tans_Norm.calls 60 A1 c1 l1 n r1 r2 w hr1 hc1 h).mono ?_
  rintro e w' ⟨v, rfl, hR, hB⟩
  obtain ⟨A, c, rfl, hl, hC⟩ := Kd.R_reads hR
  exact ⟨A, c, rfl, hl, hC, hB⟩
theorem spr_at (k : Unit) (A1 : Option Addr) (n1 c1 m : Nat) (l1 : List Int) (n : Int) (r1 : List Int) (r2 : Int) (w : World) (e1 : l1.length = n1) (em : r1.length = m) (hr1 : Kd.C (Kd.int .i64) w A1 n1 l1) (hc1 : n1 ≤ c1) (h : tans_Spread.f 60 l1 n = some (r1, r2)) :
    Calls Try.prog 9 #[.slice A1 n1 c1, .int .i64 n] w fun e w' => ∃ (A : Option Addr) (c : Nat), e = .returned (.tuple #[.slice A m c, .int .i64 r2]) ∧ m ≤ c ∧ Kd.C (Kd.int .i64) w' A m r1 ∧ Below w.heap.size w w' := by
  subst e1; subst em
  refine (tans_Spread.calls 60 A1 c1 l1 n r1 r2 w hr1 hc1 h).mono ?_
  rintro e w' ⟨v, rfl, hR, hB⟩
  obtain ⟨A, c, rfl, hl, hC⟩ := Kd.R_reads hR
  exact ⟨A, c, rfl, hl, hC, hB⟩
theorem ints_at (k : Nat) (A0 : Option Addr) (n0 c0 : Nat) (A1 : Option Addr) (n1 c1 : Nat) (l0 l1 : List Int) (w : World) (e0 : l0.length = n0) (e1 : l1.length = n1) (hr0 : Kd.C (Kd.int .i64) w A0 n0 l0) (hc0 : n0 ≤ c0) (hr1 : Kd.C (Kd.int .i64) w A1 n1 l1) (hc1 : n1 ≤ c1) (h : gladstoneref08_Ints.f k l0 l1 = some true) :
    Calls Try.prog 11 #[.slice A0 n0 c0, .slice A1 n1 c1] w fun e w' => e = .returned (.bool true) ∧ Drawn0 w w' := by
  subst e0; subst e1
  exact gladstoneref08_Ints.calls k A0 c0 l0 A1 c1 l1 true w hr0 hc0 hr1 hc1 h
set_option maxHeartbeats 8000000 in
set_option maxRecDepth 100000 in
theorem awake59_calls (w : World) : Calls Try.prog 6 #[] w fun e w' => e = .returned (.bool true) ∧ Below w.heap.size w w' := by
  have F1 := Aside0.mk (show tans_Norm.f 60 [3, 1] 5 = some ([24, 8], 0) by decide +kernel)
  have F2 := Aside0.mk (show tans_Norm.f 60 [0] 5 = some ([], 7) by decide +kernel)
  obtain ⟨T, hT⟩ : ∃ T, (encT [0, 1, 0, 0, 1] [24, 8] 5).1 = T := ⟨_, rfl⟩
  have F3 := Aside0.mk (show tans_Encode.f [0, 1, 0, 0, 1] [24, 8] 5 = some (T, 0) by rw [← hT]; decide +kernel)
  have F4 := Aside0.mk (show tans_Decode.f T 5 [24, 8] 5 = some ([0, 1, 0, 0, 1], 0) by rw [← hT]; decide +kernel)
  have F5 := Aside0.mk (show tans_Encode.f [2] [24, 8] 5 = some (⟨#[]⟩, 7) by decide +kernel)
  have F6 := Aside0.mk (show tans_Spread.f 60 [24, 7] 5 = some ([], 4) by decide +kernel)
  have F7 := Aside0.mk (show tans_Decode.f ⟨#[]⟩ 5 [24, 8] 5 = some ([], 3) by decide +kernel)
  have F8 := Aside0.mk (show gladstoneref08_Ints.f 9 [24, 8] [24, 8] = some true by decide +kernel)
  have F9 := Aside0.mk (show gladstoneref08_Ints.f 9 [0, 1, 0, 0, 1] [0, 1, 0, 0, 1] = some true by decide +kernel)
  clear hT
  go_enter Try.func6, Try.ntmps6
  go_wp2_with (first
    | ((with_reducible refine gate_dst (N := 16) rfl ?_); refine lit_event rfl (cs := #[.int .i64 3, .int .i64 1]) (t := 3) (n := 2) ?hr ?_; (case hr => first | (go_simp; done) | (go_simp; rfl)); intro g16 w1 K_ B_; have C16 := Aside0.mk (show Kd.C (Kd.int .i64) w1 (some ⟨g16, 0, none⟩) 2 ([3, 1] : List Int) from iC K_.out); have B1 := Aside0.mk (below_step (Below.refl w.heap.size w) B_.out); clear K_ B_)
    | (go_at_call 7; with_reducible refine (nrm_at () _ 2 _ 2 ([3, 1] : List Int) 5 ([24, 8] : List Int) 0 w1 rfl rfl C16.out (by decide) F1.out).mono ?_; rintro e w2 ⟨Aa, ca, rfl, la, ha, hB⟩; have B2 := Aside0.mk (below_step B1.out hB); have HA := Aside0.mk ha; have LA := Aside0.mk la; clear la ha; clear hB)
    | ((with_reducible refine gate_dst (N := 21) rfl ?_); refine lit_event rfl (cs := #[.int .i64 0]) (t := 3) (n := 1) ?hr ?_; (case hr => first | (go_simp; done) | (go_simp; rfl)); intro g21 w3 K_ B_; have C21 := Aside0.mk (show Kd.C (Kd.int .i64) w3 (some ⟨g21, 0, none⟩) 1 ([0] : List Int) from iC K_.out); have HA := Aside0.mk (Kd.C_below HA.out B_.out); have B3 := Aside0.mk (below_step B2.out B_.out); clear K_ B_)
    | (go_at_call 7; with_reducible refine (nrm_at () _ 1 _ 0 ([0] : List Int) 5 ([] : List Int) 7 w3 rfl rfl C21.out (by decide) F2.out).mono ?_; rintro e w4 ⟨Ab, cb, rfl, lb, hb, hB⟩; have HA := Aside0.mk (Kd.C_below HA.out hB); have B4 := Aside0.mk (below_step B3.out hB); clear lb hb; clear hB)
    | ((with_reducible refine gate_dst (N := 26) rfl ?_); refine lit_event rfl (cs := #[.int .i64 0, .int .i64 1, .int .i64 0, .int .i64 0, .int .i64 1]) (t := 3) (n := 5) ?hr ?_; (case hr => first | (go_simp; done) | (go_simp; rfl)); intro g26 w5 K_ B_; have C26 := Aside0.mk (show Kd.C (Kd.int .i64) w5 (some ⟨g26, 0, none⟩) 5 ([0, 1, 0, 0, 1] : List Int) from iC K_.out); have HA := Aside0.mk (Kd.C_below HA.out B_.out); have B5 := Aside0.mk (below_step B4.out B_.out); clear K_ B_)
    | ((with_reducible refine gate_dst (N := 27) rfl ?_); refine lit_event rfl (cs := #[.int .i64 24, .int .i64 8]) (t := 3) (n := 2) ?hr ?_; (case hr => first | (go_simp; done) | (go_simp; rfl)); intro g27 w6 K_ B_; have C27 := Aside0.mk (show Kd.C (Kd.int .i64) w6 (some ⟨g27, 0, none⟩) 2 ([24, 8] : List Int) from iC K_.out); have HA := Aside0.mk (Kd.C_below HA.out B_.out); have C26 := Aside0.mk (Kd.C_below C26.out B_.out); have B6 := Aside0.mk (below_step B5.out B_.out); clear K_ B_)
    | (go_at_call 14; with_reducible refine (enc_at _ 5 _ _ 2 _ ([0, 1, 0, 0, 1] : List Int) ([24, 8] : List Int) 5 T 0 w6 rfl rfl C26.out C27.out (by decide) (by decide) F3.out).mono ?_; rintro e w7 ⟨rfl, hB⟩; have HA := Aside0.mk (Kd.C_below HA.out hB); have B7 := Aside0.mk (below_step B6.out hB); clear hB)
    | ((with_reducible refine gate_dst (N := 33) rfl ?_); refine lit_event rfl (cs := #[.int .i64 24, .int .i64 8]) (t := 3) (n := 2) ?hr ?_; (case hr => first | (go_simp; done) | (go_simp; rfl)); intro g33 w8 K_ B_; have C33 := Aside0.mk (show Kd.C (Kd.int .i64) w8 (some ⟨g33, 0, none⟩) 2 ([24, 8] : List Int) from iC K_.out); have HA := Aside0.mk (Kd.C_below HA.out B_.out); have B8 := Aside0.mk (below_step B7.out B_.out); clear K_ B_)
    | (go_at_call 12; with_reducible refine (dec_at T 5 _ 2 _ 5 ([24, 8] : List Int) 5 ([0, 1, 0, 0, 1] : List Int) 0 w8 rfl rfl C33.out (by decide) F4.out).mono ?_; rintro e w9 ⟨Ad, cd, rfl, ld, hd, hB⟩; have HA := Aside0.mk (Kd.C_below HA.out hB); have B9 := Aside0.mk (below_step B8.out hB); have HD := Aside0.mk hd; have LD := Aside0.mk ld; clear ld hd; clear hB)
    | ((with_reducible refine gate_dst (N := 38) rfl ?_); refine lit_event rfl (cs := #[.int .i64 2]) (t := 3) (n := 1) ?hr ?_; (case hr => first | (go_simp; done) | (go_simp; rfl)); intro g38 w10 K_ B_; have C38 := Aside0.mk (show Kd.C (Kd.int .i64) w10 (some ⟨g38, 0, none⟩) 1 ([2] : List Int) from iC K_.out); have HA := Aside0.mk (Kd.C_below HA.out B_.out); have HD := Aside0.mk (Kd.C_below HD.out B_.out); have B10 := Aside0.mk (below_step B9.out B_.out); clear K_ B_)
    | ((with_reducible refine gate_dst (N := 39) rfl ?_); refine lit_event rfl (cs := #[.int .i64 24, .int .i64 8]) (t := 3) (n := 2) ?hr ?_; (case hr => first | (go_simp; done) | (go_simp; rfl)); intro g39 w11 K_ B_; have C39 := Aside0.mk (show Kd.C (Kd.int .i64) w11 (some ⟨g39, 0, none⟩) 2 ([24, 8] : List Int) from iC K_.out); have HA := Aside0.mk (Kd.C_below HA.out B_.out); have HD := Aside0.mk (Kd.C_below HD.out B_.out); have C38 := Aside0.mk (Kd.C_below C38.out B_.out); have B11 := Aside0.mk (below_step B10.out B_.out); clear K_ B_)
    | (go_at_call 14; with_reducible refine (enc_at _ 1 _ _ 2 _ ([2] : List Int) ([24, 8] : List Int) 5 ⟨#[]⟩ 7 w11 rfl rfl C38.out C39.out (by decide) (by decide) F5.out).mono ?_; rintro e w12 ⟨rfl, hB⟩; have HA := Aside0.mk (Kd.C_below HA.out hB); have HD := Aside0.mk (Kd.C_below HD.out hB); have B12 := Aside0.mk (below_step B11.out hB); clear hB)
    | ((with_reducible refine gate_dst (N := 44) rfl ?_); refine lit_event rfl (cs := #[.int .i64 24, .int .i64 7]) (t := 3) (n := 2) ?hr ?_; (case hr => first | (go_simp; done) | (go_simp; rfl)); intro g44 w13 K_ B_; have C44 := Aside0.mk (show Kd.C (Kd.int .i64) w13 (some ⟨g44, 0, none⟩) 2 ([24, 7] : List Int) from iC K_.out); have HA := Aside0.mk (Kd.C_below HA.out B_.out); have HD := Aside0.mk (Kd.C_below HD.out B_.out); have B13 := Aside0.mk (below_step B12.out B_.out); clear K_ B_)
    | (go_at_call 9; with_reducible refine (spr_at () _ 2 _ 0 ([24, 7] : List Int) 5 ([] : List Int) 4 w13 rfl rfl C44.out (by decide) F6.out).mono ?_; rintro e w14 ⟨Ae, ce, rfl, le, he, hB⟩; have HA := Aside0.mk (Kd.C_below HA.out hB); have HD := Aside0.mk (Kd.C_below HD.out hB); have B14 := Aside0.mk (below_step B13.out hB); clear le he; clear hB)
    | ((with_reducible refine gate_dst (N := 49) rfl ?_); refine lit_event rfl (cs := #[.int .i64 24, .int .i64 8]) (t := 3) (n := 2) ?hr ?_; (case hr => first | (go_simp; done) | (go_simp; rfl)); intro g49 w15 K_ B_; have C49 := Aside0.mk (show Kd.C (Kd.int .i64) w15 (some ⟨g49, 0, none⟩) 2 ([24, 8] : List Int) from iC K_.out); have HA := Aside0.mk (Kd.C_below HA.out B_.out); have HD := Aside0.mk (Kd.C_below HD.out B_.out); have B15 := Aside0.mk (below_step B14.out B_.out); clear K_ B_)
    | (go_at_call 12; with_reducible refine (dec_at ⟨#[]⟩ 5 _ 2 _ 0 ([24, 8] : List Int) 5 ([] : List Int) 3 w15 rfl rfl C49.out (by decide) F7.out).mono ?_; rintro e w16 ⟨Af, cf, rfl, lf, hf, hB⟩; have HA := Aside0.mk (Kd.C_below HA.out hB); have HD := Aside0.mk (Kd.C_below HD.out hB); have B16 := Aside0.mk (below_step B15.out hB); clear lf hf; clear hB)
    | ((with_reducible refine gate_dst (N := 54) rfl ?_); refine lit_event rfl (cs := #[.int .i64 24, .int .i64 8]) (t := 3) (n := 2) ?hr ?_; (case hr => first | (go_simp; done) | (go_simp; rfl)); intro g54 w17 K_ B_; have C54 := Aside0.mk (show Kd.C (Kd.int .i64) w17 (some ⟨g54, 0, none⟩) 2 ([24, 8] : List Int) from iC K_.out); have HA := Aside0.mk (Kd.C_below HA.out B_.out); have HD := Aside0.mk (Kd.C_below HD.out B_.out); have B17 := Aside0.mk (below_step B16.out B_.out); clear K_ B_)
    | (go_at_call 11; with_reducible refine (ints_at 9 Aa 2 ca (some ⟨g54, 0, none⟩) 2 2 ([24, 8] : List Int) ([24, 8] : List Int) w17 rfl rfl HA.out LA.out C54.out (by decide) F8.out).mono ?_; rintro e w18 ⟨rfl, hd⟩; have hB := drawn_b hd; have HD := Aside0.mk (Kd.C_below HD.out hB); have B18 := Aside0.mk (below_step B17.out hB); clear hB hd)
    | ((with_reducible refine gate_dst (N := 70) rfl ?_); (try (refine gate_guard (by rfl) ?_; dsimp only)); refine lit_event rfl (cs := #[.int .i64 0, .int .i64 1, .int .i64 0, .int .i64 0, .int .i64 1]) (t := 3) (n := 5) ?hr ?_; (case hr => first | (go_simp; done) | (go_simp; rfl)); intro g70 w19 K_ B_; have C70 := Aside0.mk (show Kd.C (Kd.int .i64) w19 (some ⟨g70, 0, none⟩) 5 ([0, 1, 0, 0, 1] : List Int) from iC K_.out); have HD := Aside0.mk (Kd.C_below HD.out B_.out); have B19 := Aside0.mk (below_step B18.out B_.out); clear K_ B_)
    | (go_at_call 11; with_reducible refine (ints_at 9 Ad 5 cd (some ⟨g70, 0, none⟩) 5 5 ([0, 1, 0, 0, 1] : List Int) ([0, 1, 0, 0, 1] : List Int) w19 rfl rfl HD.out LD.out C70.out (by decide) F9.out).mono ?_; rintro e w20 ⟨rfl, hd⟩; have hB := drawn_b hd; have B20 := Aside0.mk (below_step B19.out hB); clear hB hd))
  go_ret
  exact ⟨rfl, B20.out⟩
def gladstonelaw59_awake.f : Option Bool := some true
theorem gladstonelaw59_awake.calls (r : Bool) (w : World) (h : gladstonelaw59_awake.f = some r) : Calls Try.prog 6 #[] w fun e w' => e = .returned (.bool r) ∧ Below w.heap.size w w' := by
  cases h
  exact awake59_calls w
end Go.Proofs.Ytoondlhlcmjniaa.P
