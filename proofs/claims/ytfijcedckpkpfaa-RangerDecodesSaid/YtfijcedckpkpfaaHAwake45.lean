/- Chapter 45's example, walked by hand (printed by a program of this session's own). -/
import Derived.Test.YtfijcedckpkpfaaHRg8
set_option linter.unusedVariables false
set_option linter.unusedSimpArgs false
set_option linter.unusedSectionVars false
namespace Go.Proofs.Ytfijcedckpkpfaa.Hd
open Go.RowKit Go.Proofs.YtfijcedckpkpfaaW.PrintWords Go.Proofs.YtfijcedckpkpfaaW.PrintLast Go.Proofs.YtfijcedckpkpfaaW.PrintMore Go.Proofs.Ytfijcedckpkpfaa.Hw Go.Proofs.Ytfijcedckpkpfaa.Com Go.Proofs.Ytfijcedckpkpfaa.P
attribute [local go_sem] max2_int min2_int max_two min_two max_three min_three max_four min_four
theorem drawn_b {w w1 : World} (h : Drawn0 w w1) : Below w.heap.size w w1 := by
  obtain ⟨n, rfl⟩ := h
  exact pw_below_drewN (Below.refl _ _) n
theorem lit_event {P : Program} {ops : Array Oper} {rest : List Oper} {o : Oper} {a : Act} {Q : Exit → Act → World → Prop} {W : World} (hgd : o.guard = none) {cs : Array Value} {t : TypeId} {n : Nat}
    (hrun : (execOp a.eval o).run P W = .ok (.value (.slice (some ⟨W.heap.size, 0, none⟩) n n)) (W.alloc (.cells cs t (0, 0))))
    (h : ∀ g w1, Aside0 (w1.heap[g]? = some (.cells cs t (0, 0))) → Aside0 (Below W.heap.size W w1) → wpList P ops Q rest (a.put o.dst (.slice (some ⟨g, 0, none⟩) n n)) w1) : wpList P ops Q (o :: rest) a W :=
  val_event hgd hrun (h _ _ ⟨blk_new W _⟩ ⟨below_alloc (Below.refl _ _) _⟩)
theorem bC {W : World} {g : Nat} {r : List Bool} (h : W.heap[g]? = some (.cells (bools r) 4 (0, 0))) (hm : r.length ≤ maxLen := by decide) : Kd.C Kd.bool W (some ⟨g, 0, none⟩) r.length r := (Kd.R_reads' (BlB.R (base := 0) h (Nat.zero_le _) hm (fun _ => True) trivial)).2.2
theorem iC {W : World} {g : Nat} {r : List Int} (h : W.heap[g]? = some (.cells (ints .i64 r) 3 (0, 0))) (hm : r.length ≤ maxLen := by decide) : Kd.C (Kd.int .i64) W (some ⟨g, 0, none⟩) r.length r := (Kd.R_reads' (Blk.R (base := 0) h (Nat.zero_le _) hm (fun _ => True) trivial)).2.2
end Go.Proofs.Ytfijcedckpkpfaa.Hd
namespace Go.Proofs.Ytfijcedckpkpfaa.P
open Go.RowKit Go.Proofs.YtfijcedckpkpfaaW.PrintWords Go.Proofs.YtfijcedckpkpfaaW.PrintLast Go.Proofs.YtfijcedckpkpfaaW.PrintMore Go.Proofs.Ytfijcedckpkpfaa.Hw Go.Proofs.Ytfijcedckpkpfaa.Com Go.Proofs.Ytfijcedckpkpfaa.Hd
attribute [local go_sem] max2_int min2_int max_two min_two max_three min_three max_four min_four
theorem enc_at (A0 : Option Addr) (n0 c0 : Nat) (A1 : Option Addr) (n1 c1 : Nat) (l0 : List Bool) (l1 : List Int) (r1 : ByteArray) (r2 : Int) (w : World) (e0 : l0.length = n0) (e1 : l1.length = n1) (hr0 : Kd.C Kd.bool w A0 n0 l0) (hr1 : Kd.C (Kd.int .i64) w A1 n1 l1) (hc0 : n0 ≤ c0) (hc1 : n1 ≤ c1) (h : ranger_Encode.f l0 l1 = some (r1, r2)) :
    Calls Try.prog 8 #[.slice A0 n0 c0, .slice A1 n1 c1] w fun e w' => e = .returned (.tuple #[.string r1, .int .i64 r2]) ∧ Below w.heap.size w w' := by
  subst e0; subst e1
  exact ranger_Encode.calls A0 c0 l0 A1 c1 l1 r1 r2 w hr0 hc0 hr1 hc1 h
theorem dec_at (a0 : ByteArray) (A1 : Option Addr) (n1 c1 m : Nat) (l1 : List Int) (r1 : List Bool) (r2 : Int) (w : World) (e1 : l1.length = n1) (em : r1.length = m) (hr1 : Kd.C (Kd.int .i64) w A1 n1 l1) (hc1 : n1 ≤ c1) (h : ranger_Decode.f a0 l1 = some (r1, r2)) :
    Calls Try.prog 10 #[.string a0, .slice A1 n1 c1] w fun e w' => ∃ (A : Option Addr) (c : Nat), e = .returned (.tuple #[.slice A m c, .int .i64 r2]) ∧ m ≤ c ∧ Kd.C Kd.bool w' A m r1 ∧ Below w.heap.size w w' := by
  subst e1; subst em
  refine (ranger_Decode.calls a0 A1 c1 l1 r1 r2 w hr1 hc1 h).mono ?_
  rintro e w' ⟨v, rfl, hR, hB⟩
  obtain ⟨A, c, rfl, hl, hC⟩ := Kd.R_reads hR
  exact ⟨A, c, rfl, hl, hC, hB⟩
theorem bools_at (k : Nat) (A0 : Option Addr) (n0 c0 : Nat) (A1 : Option Addr) (n1 c1 : Nat) (l0 l1 : List Bool) (w : World) (e0 : l0.length = n0) (e1 : l1.length = n1) (hr0 : Kd.C Kd.bool w A0 n0 l0) (hc0 : n0 ≤ c0) (hr1 : Kd.C Kd.bool w A1 n1 l1) (hc1 : n1 ≤ c1) (h : gladstoneref09_Bools.f k l0 l1 = some true) :
    Calls Try.prog 12 #[.slice A0 n0 c0, .slice A1 n1 c1] w fun e w' => e = .returned (.bool true) ∧ Drawn0 w w' := by
  subst e0; subst e1
  exact gladstoneref09_Bools.calls k A0 c0 l0 A1 c1 l1 true w hr0 hc0 hr1 hc1 h
set_option maxHeartbeats 8000000 in
set_option maxRecDepth 100000 in
theorem awake45_calls (w : World) : Calls Try.prog 7 #[] w fun e w' => e = .returned (.bool true) ∧ Below w.heap.size w w' := by
  have F1 := Aside0.mk (show ranger_Encode.f [false] [1024] = some (⟨#[0, 0, 0, 0]⟩, 0) by decide +kernel)
  have F2 := Aside0.mk (show ranger_Decode.f ⟨#[0, 0, 0, 0]⟩ [1024, 2047] = some ([false, false], 0) by decide +kernel)
  have F3 := Aside0.mk (show ranger_Encode.f [false] [] = some (⟨#[]⟩, 1) by decide +kernel)
  have F4 := Aside0.mk (show ranger_Encode.f [false] [2048] = some (⟨#[]⟩, 2) by decide +kernel)
  obtain ⟨T, hT⟩ : ∃ T, (encP [true, true, false] [1024, 1, 2047]).1 = T := ⟨_, rfl⟩
  have F5 := Aside0.mk (show ranger_Encode.f [true, true, false] [1024, 1, 2047] = some (T, 0) by rw [← hT]; decide +kernel)
  have F6 := Aside0.mk (show ranger_Decode.f T [1024, 1, 2047] = some ([true, true, false], 0) by rw [← hT]; decide +kernel)
  have F7 := Aside0.mk (show gladstoneref09_Bools.f 9 [false, false] [false, false] = some true by decide +kernel)
  have F8 := Aside0.mk (show gladstoneref09_Bools.f 9 [true, true, false] [true, true, false] = some true by decide +kernel)
  clear hT
  go_enter Try.func7, Try.ntmps7
  go_wp2_with (first
    | ((with_reducible refine gate_dst (N := 14) rfl ?_); refine lit_event rfl (cs := #[.bool false]) (t := 4) (n := 1) ?hr ?_; (case hr => first | (go_simp; done) | (go_simp; rfl)); intro g14 w1 K_ B_; have C14 := Aside0.mk (show Kd.C Kd.bool w1 (some ⟨g14, 0, none⟩) 1 ([false] : List Bool) from bC K_.out); have B1 := Aside0.mk (below_step (Below.refl w.heap.size w) B_.out); clear K_ B_)
    | ((with_reducible refine gate_dst (N := 15) rfl ?_); refine lit_event rfl (cs := #[.int .i64 1024]) (t := 3) (n := 1) ?hr ?_; (case hr => first | (go_simp; done) | (go_simp; rfl)); intro g15 w2 K_ B_; have C15 := Aside0.mk (show Kd.C (Kd.int .i64) w2 (some ⟨g15, 0, none⟩) 1 ([1024] : List Int) from iC K_.out); have C14 := Aside0.mk (Kd.C_below C14.out B_.out); have B2 := Aside0.mk (below_step B1.out B_.out); clear K_ B_)
    | (go_at_call 8; with_reducible refine (enc_at _ 1 _ _ 1 _ ([false] : List Bool) ([1024] : List Int) ⟨#[0, 0, 0, 0]⟩ 0 w2 rfl rfl C14.out C15.out (by decide) (by decide) F1.out).mono ?_; rintro e w3 ⟨rfl, hB⟩; have B3 := Aside0.mk (below_step B2.out hB); clear hB)
    | ((with_reducible refine gate_dst (N := 21) rfl ?_); refine lit_event rfl (cs := #[.int .i64 1024, .int .i64 2047]) (t := 3) (n := 2) ?hr ?_; (case hr => first | (go_simp; done) | (go_simp; rfl)); intro g21 w4 K_ B_; have C21 := Aside0.mk (show Kd.C (Kd.int .i64) w4 (some ⟨g21, 0, none⟩) 2 ([1024, 2047] : List Int) from iC K_.out); have B4 := Aside0.mk (below_step B3.out B_.out); clear K_ B_)
    | (go_at_call 10; with_reducible refine (dec_at ⟨#[0, 0, 0, 0]⟩ _ 2 _ 2 ([1024, 2047] : List Int) ([false, false] : List Bool) 0 w4 rfl rfl C21.out (by decide) F2.out).mono ?_; rintro e w5 ⟨Aa, ca, rfl, la, ha, hB⟩; have B5 := Aside0.mk (below_step B4.out hB); have HA := Aside0.mk ha; have LA := Aside0.mk la; clear la ha; clear hB)
    | ((with_reducible refine gate_dst (N := 26) rfl ?_); refine lit_event rfl (cs := #[.bool false]) (t := 4) (n := 1) ?hr ?_; (case hr => first | (go_simp; done) | (go_simp; rfl)); intro g26 w6 K_ B_; have C26 := Aside0.mk (show Kd.C Kd.bool w6 (some ⟨g26, 0, none⟩) 1 ([false] : List Bool) from bC K_.out); have HA := Aside0.mk (Kd.C_below HA.out B_.out); have B6 := Aside0.mk (below_step B5.out B_.out); clear K_ B_)
    | (go_at_call 8; with_reducible refine (enc_at _ 1 _ _ 0 _ ([false] : List Bool) ([] : List Int) ⟨#[]⟩ 1 w6 rfl rfl C26.out (Kd.C_nil _ _) (by decide) (by decide) F3.out).mono ?_; rintro e w7 ⟨rfl, hB⟩; have HA := Aside0.mk (Kd.C_below HA.out hB); have B7 := Aside0.mk (below_step B6.out hB); clear hB)
    | ((with_reducible refine gate_dst (N := 31) rfl ?_); refine lit_event rfl (cs := #[.bool false]) (t := 4) (n := 1) ?hr ?_; (case hr => first | (go_simp; done) | (go_simp; rfl)); intro g31 w8 K_ B_; have C31 := Aside0.mk (show Kd.C Kd.bool w8 (some ⟨g31, 0, none⟩) 1 ([false] : List Bool) from bC K_.out); have HA := Aside0.mk (Kd.C_below HA.out B_.out); have B8 := Aside0.mk (below_step B7.out B_.out); clear K_ B_)
    | ((with_reducible refine gate_dst (N := 32) rfl ?_); refine lit_event rfl (cs := #[.int .i64 2048]) (t := 3) (n := 1) ?hr ?_; (case hr => first | (go_simp; done) | (go_simp; rfl)); intro g32 w9 K_ B_; have C32 := Aside0.mk (show Kd.C (Kd.int .i64) w9 (some ⟨g32, 0, none⟩) 1 ([2048] : List Int) from iC K_.out); have HA := Aside0.mk (Kd.C_below HA.out B_.out); have C31 := Aside0.mk (Kd.C_below C31.out B_.out); have B9 := Aside0.mk (below_step B8.out B_.out); clear K_ B_)
    | (go_at_call 8; with_reducible refine (enc_at _ 1 _ _ 1 _ ([false] : List Bool) ([2048] : List Int) ⟨#[]⟩ 2 w9 rfl rfl C31.out C32.out (by decide) (by decide) F4.out).mono ?_; rintro e w10 ⟨rfl, hB⟩; have HA := Aside0.mk (Kd.C_below HA.out hB); have B10 := Aside0.mk (below_step B9.out hB); clear hB)
    | ((with_reducible refine gate_dst (N := 37) rfl ?_); refine lit_event rfl (cs := #[.bool true, .bool true, .bool false]) (t := 4) (n := 3) ?hr ?_; (case hr => first | (go_simp; done) | (go_simp; rfl)); intro g37 w11 K_ B_; have C37 := Aside0.mk (show Kd.C Kd.bool w11 (some ⟨g37, 0, none⟩) 3 ([true, true, false] : List Bool) from bC K_.out); have HA := Aside0.mk (Kd.C_below HA.out B_.out); have B11 := Aside0.mk (below_step B10.out B_.out); clear K_ B_)
    | ((with_reducible refine gate_dst (N := 38) rfl ?_); refine lit_event rfl (cs := #[.int .i64 1024, .int .i64 1, .int .i64 2047]) (t := 3) (n := 3) ?hr ?_; (case hr => first | (go_simp; done) | (go_simp; rfl)); intro g38 w12 K_ B_; have C38 := Aside0.mk (show Kd.C (Kd.int .i64) w12 (some ⟨g38, 0, none⟩) 3 ([1024, 1, 2047] : List Int) from iC K_.out); have HA := Aside0.mk (Kd.C_below HA.out B_.out); have C37 := Aside0.mk (Kd.C_below C37.out B_.out); have B12 := Aside0.mk (below_step B11.out B_.out); clear K_ B_)
    | (go_at_call 8; with_reducible refine (enc_at _ 3 _ _ 3 _ ([true, true, false] : List Bool) ([1024, 1, 2047] : List Int) T 0 w12 rfl rfl C37.out C38.out (by decide) (by decide) F5.out).mono ?_; rintro e w13 ⟨rfl, hB⟩; have HA := Aside0.mk (Kd.C_below HA.out hB); have B13 := Aside0.mk (below_step B12.out hB); clear hB)
    | ((with_reducible refine gate_dst (N := 44) rfl ?_); refine lit_event rfl (cs := #[.int .i64 1024, .int .i64 1, .int .i64 2047]) (t := 3) (n := 3) ?hr ?_; (case hr => first | (go_simp; done) | (go_simp; rfl)); intro g44 w14 K_ B_; have C44 := Aside0.mk (show Kd.C (Kd.int .i64) w14 (some ⟨g44, 0, none⟩) 3 ([1024, 1, 2047] : List Int) from iC K_.out); have HA := Aside0.mk (Kd.C_below HA.out B_.out); have B14 := Aside0.mk (below_step B13.out B_.out); clear K_ B_)
    | (go_at_call 10; with_reducible refine (dec_at T _ 3 _ 3 ([1024, 1, 2047] : List Int) ([true, true, false] : List Bool) 0 w14 rfl rfl C44.out (by decide) F6.out).mono ?_; rintro e w15 ⟨Ab, cb, rfl, lb, hb, hB⟩; have HA := Aside0.mk (Kd.C_below HA.out hB); have B15 := Aside0.mk (below_step B14.out hB); have HB := Aside0.mk hb; have LB := Aside0.mk lb; clear lb hb; clear hB)
    | ((with_reducible refine gate_dst (N := 56) rfl ?_); (try (refine gate_guard (by rfl) ?_; dsimp only)); refine lit_event rfl (cs := #[.bool false, .bool false]) (t := 4) (n := 2) ?hr ?_; (case hr => first | (go_simp; done) | (go_simp; rfl)); intro g56 w16 K_ B_; have C56 := Aside0.mk (show Kd.C Kd.bool w16 (some ⟨g56, 0, none⟩) 2 ([false, false] : List Bool) from bC K_.out); have HA := Aside0.mk (Kd.C_below HA.out B_.out); have HB := Aside0.mk (Kd.C_below HB.out B_.out); have B16 := Aside0.mk (below_step B15.out B_.out); clear K_ B_)
    | (go_at_call 12; with_reducible refine (bools_at 9 Aa 2 ca (some ⟨g56, 0, none⟩) 2 2 ([false, false] : List Bool) ([false, false] : List Bool) w16 rfl rfl HA.out LA.out C56.out (by decide) F7.out).mono ?_; rintro e w17 ⟨rfl, hd⟩; have hB := drawn_b hd; have HB := Aside0.mk (Kd.C_below HB.out hB); have B17 := Aside0.mk (below_step B16.out hB); clear hB hd)
    | ((with_reducible refine gate_dst (N := 77) rfl ?_); (try (refine gate_guard (by rfl) ?_; dsimp only)); refine lit_event rfl (cs := #[.bool true, .bool true, .bool false]) (t := 4) (n := 3) ?hr ?_; (case hr => first | (go_simp; done) | (go_simp; rfl)); intro g77 w18 K_ B_; have C77 := Aside0.mk (show Kd.C Kd.bool w18 (some ⟨g77, 0, none⟩) 3 ([true, true, false] : List Bool) from bC K_.out); have HB := Aside0.mk (Kd.C_below HB.out B_.out); have B18 := Aside0.mk (below_step B17.out B_.out); clear K_ B_)
    | (go_at_call 12; with_reducible refine (bools_at 9 Ab 3 cb (some ⟨g77, 0, none⟩) 3 3 ([true, true, false] : List Bool) ([true, true, false] : List Bool) w18 rfl rfl HB.out LB.out C77.out (by decide) F8.out).mono ?_; rintro e w19 ⟨rfl, hd⟩; have hB := drawn_b hd; have B19 := Aside0.mk (below_step B18.out hB); clear hB hd))
  go_ret
  exact ⟨rfl, B19.out⟩
end Go.Proofs.Ytfijcedckpkpfaa.P
