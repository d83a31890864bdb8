/- ranger.New and Bit, walked by hand. -/
import Derived.Test.YtfijcedckpkpfaaHRg6
set_option linter.unusedVariables false
set_option linter.unusedSimpArgs false
set_option linter.unusedSectionVars false
namespace Go.Proofs.Ytfijcedckpkpfaa.Hd
open Go.RowKit Go.Proofs.YtfijcedckpkpfaaW.PrintWords Go.Proofs.YtfijcedckpkpfaaW.PrintLast Go.Proofs.YtfijcedckpkpfaaW.PrintMore Go.Proofs.Ytfijcedckpkpfaa.Hw Go.Proofs.Ytfijcedckpkpfaa.Com Go.Proofs.Ytfijcedckpkpfaa.Rn Go.Proofs.Ytfijcedckpkpfaa.P
attribute [local go_sem] max2_int min2_int max_two min_two max_three min_three max_four min_four
def nit : Nat → Nat → ByteArray → Nat × ByteArray
  | 0, x, s => (x, s)
  | k + 1, x, s => nit k (nxX x s) (nxS s)
theorem nit_lt (k : Nat) : ∀ x s, x < 4294967296 → (nit k x s).1 < 4294967296 := by
  induction k with
  | zero => intro x s h; exact h
  | succ k ih => intro x s h; exact ih _ _ (nxX_lt x s)
set_option maxHeartbeats 4000000 in
set_option maxRecDepth 100000 in
theorem New_calls (s : ByteArray) (w : World) :
    Calls Try.prog 13 #[.string s] w fun e w' => ∃ g : Nat, e = .returned (.pointer (some ⟨g, 0, none⟩)) ∧ w.heap.size ≤ g ∧ DecS w' g (0 : Nat) (4294967295 : Nat) ((nit 4 0 s).1 : Nat) (nit 4 0 s).2 ∧ Below w.heap.size w w' := by
  go_enter Try.func13, Try.ntmps13
  go_wp2_with (first
    | (go_at_call 23; (with_reducible refine (ranger_fresh.calls _ _ _ rfl).mono ?_); rintro e w1 ⟨rfl, hB⟩; have B1 := Aside0.mk hB; clear hB)
    | ((with_reducible refine gate_dst (N := 7) rfl ?_); refine box_event ?hg (N := 7) ?hd (cs := #[.int .u64 0, .int .u64 4294967295, .int .u64 0, .string s]) (t := 62) ?hr ?_; (case hd => rfl); (case hg => rfl); (case hr => first | (go_simp; done) | (go_simp; rfl)); intro g hg w2 hx2 hB2; have B2 := Aside0.mk (below_step B1.out hB2); have S2 := Aside0.mk (show DecS w2 g (0 : Nat) (4294967295 : Nat) (0 : Nat) s from hx2); have G2 := Aside0.mk (show w.heap.size ≤ g by rw [hg]; exact B1.out.size); clear hg hx2 hB2))
  go_loopg [8] 4 (fun q v8 w' => ∃ (L : Int) (m x : Nat) (s' : ByteArray), v8 = .int .i64 L ∧ Aside0 (L = (m : Int) ∧ m + q = 4 ∧ x < 4294967296 ∧ nit q x s' = nit 4 0 s) ∧ Aside0 (DecS w' g (0 : Nat) (4294967295 : Nat) x s') ∧ Aside0 (Below w.heap.size w w'))
  case atStart => exact ⟨0, 0, 0, s, rfl, ⟨rfl, rfl, by decide, rfl⟩, S2, B2⟩
  case round =>
    clear S2 B2 B1
    obtain ⟨L, m, x, s', rfl, HA, S2, B2⟩ := hrel
    cases gk with
    | zero =>
      have t1 : decide (L < 4) = false := decide_eq_false (by have := HA.out; omega)
      have E := Aside0.mk HA.out.2.2.2
      go_wp2
      go_ret
      refine ⟨g, rfl, G2.out, ?_, B2.out⟩
      rw [← E.out]
      exact S2.out
    | succ q =>
      have t1 : decide (L < 4) = true := decide_eq_true (by have := HA.out; omega)
      go_wp2_with (first
        | (go_at_call 24; (with_reducible refine (next_calls g 0 4294967295 x s' _ S2.out HA.out.2.2.1).mono ?_); rintro e w3 ⟨rfl, hS, hG⟩; have S3 := Aside0.mk hS; have B3 := Aside0.mk (below_grown B2.out hG G2.out B2.out.size); clear hS hG))
      go_roundg q
      case measure => omega
      case rel =>
        refine ⟨wrap64 (L + 1), m + 1, nxX x s', nxS s', rfl, ⟨?_, by have := HA.out; omega, nxX_lt x s', HA.out.2.2.2⟩, S3, B3⟩
        have := HA.out; rw [w64 (by omega) (by omega)]; omega
def nrm : Nat → Nat → Nat → Nat → ByteArray → Nat × Nat × Nat × ByteArray
  | 0, a, b, x, s => (a, b, x, s)
  | f + 1, a, b, x, s => if a / 16777216 = b / 16777216 then nrm f (sa a) (sb b) (nxX x s) (nxS s) else (a, b, x, s)
def Jb (q : Nat) (ok : Bool) (a b x : Nat) (s : ByteArray) (tot : Nat × Nat × Nat × ByteArray) : Prop :=
  (ok = true ∧ ∃ f, q = f + 1 ∧ Wd f a b ∧ nrm f a b (nxX x s) (nxS s) = tot) ∨ (ok = false ∧ (a, b, x, s) = tot)
theorem Jb_shift {f a b x : Nat} {s : ByteArray} {tot : Nat × Nat × Nat × ByteArray} (h : Wd f a b) (e : nrm f a b x s = tot) :
    Jb f (shr1 a b).2.1 (shr1 a b).2.2.1 (shr1 a b).2.2.2 x s tot := by
  unfold shr1
  by_cases hs : a / 16777216 = b / 16777216
  · rw [if_pos hs]
    cases f with
    | zero => exact absurd hs h.zero
    | succ f =>
      rw [nrm, if_pos hs] at e
      exact .inl ⟨rfl, f, rfl, h.step hs, e⟩
  · rw [if_neg hs]
    refine .inr ⟨rfl, ?_⟩
    rw [← e]
    cases f with
    | zero => rfl
    | succ f => rw [nrm, if_neg hs]
theorem load_run {P : Program} {o : Oper} {a : Act} {W : World} {ty : TypeId} {x : Operand} {b o' : Nat} {cs : List Value} {d : TypeDesc} (ho : o.op = .load ty x) (hx : a.eval x = .pointer (some ⟨b, o', none⟩)) (hc : W.rangeAt b o' cs)
    (hu : P.underlying ty = some d) (hd : d.isRow = true) (hi : (P.info? ty).map (·.size) = some cs.length) : (execOp a.eval o).run P W = .ok (.value (.agg cs.toArray)) W := by
  have := run_loadAt_mid (P := P) W b o' ty cs d hc hu hd hi
  simp [execOp, ho, hx, this]
theorem range2 {W : World} {g : Nat} {u v : Value} (h0 : W.cell? ⟨g, 0, none⟩ = some u) (h1 : W.cell? ⟨g, 1, none⟩ = some v) : W.rangeAt g 0 [u, v] := by
  intro j y hy
  match j, hy with
  | 0, hy => simp at hy; subst hy; exact h0
  | 1, hy => simp at hy; subst hy; exact h1
/-- The bit, and what is left. -/
def bitB (a b x p : Nat) : Bool := decide (mid a b p < x)
set_option maxHeartbeats 8000000 in
set_option maxRecDepth 100000 in
theorem Bit_calls (g a b x p : Nat) (s : ByteArray) (w : World) (hS : DecS w g a b x s) (hab : a < b) (hb : b < 4294967296) (hx : x < 4294967296) (hp1 : 1 ≤ p) (hp : p ≤ 2047) :
    Calls Try.prog 15 #[.pointer (some ⟨g, 0, none⟩), .int .i64 p] w fun e w' => e = .returned (.tuple #[.bool (bitB a b x p), .int .i64 0]) ∧
      DecS w' g (nrm 4 (tk a b p (bitB a b x p)).1 (tk a b p (bitB a b x p)).2 x s).1 (nrm 4 (tk a b p (bitB a b x p)).1 (tk a b p (bitB a b x p)).2 x s).2.1 (nrm 4 (tk a b p (bitB a b x p)).1 (tk a b p (bitB a b x p)).2 x s).2.2.1 (nrm 4 (tk a b p (bitB a b x p)).1 (tk a b p (bitB a b x p)).2 x s).2.2.2 ∧ w.grownBy w' (some g) := by
  have S0 := Aside0.mk hS
  have hc0 := Sp.cell0 hS
  have hc1 := Sp.cell1 hS
  have hc2 := hS.cell2
  have MF := Aside0.mk (mid_f a b p (Nat.le_of_lt hab) hb (by omega))
  have BF := Aside0.mk (show ranger_bad.f p = some false by
    rw [bad_f]; unfold badP; rw [decide_eq_false (by omega)])
  obtain ⟨bit, hbit⟩ : ∃ z, bitB a b x p = z := ⟨_, rfl⟩
  have tb : decide ((mid a b p : Int) < (x : Int)) = bit := by
    rw [← hbit]; unfold bitB
    exact decide_eq_decide.2 ⟨fun h => by omega, fun h => by omega⟩
  have tb2 : decide (mid a b p < x) = bit := hbit
  rw [hbit]
  have HT := Aside0.mk (tk_ok (p := p) (bit := bit) hab (by omega))
  have LT := Aside0.mk (show a ≤ b ∧ b < 4294967296 ∧ p ≤ 2048 ∧ x < 4294967296 by omega)
  obtain ⟨a1, ha1⟩ : ∃ x, (tk a b p bit).1 = x := ⟨_, rfl⟩
  obtain ⟨b1, hb1⟩ : ∃ x, (tk a b p bit).2 = x := ⟨_, rfl⟩
  rw [ha1, hb1] at HT
  rw [ha1, hb1]
  have HTA := Aside0.mk (And.intro ha1 hb1)
  have WD := Aside0.mk (Wd.start HT.out.2.1 (Nat.lt_of_le_of_lt HT.out.2.2 LT.out.2.1))
  have AB := Aside0.mk (show a1 < 4294967296 ∧ b1 < 4294967296 by have := HT.out; have := LT.out; omega)
  clear hS hab hb hx hp1 hp hbit ha1 hb1
  go_enter Try.func15, Try.ntmps15
  go_wp2_with (first
    | (go_at_call 18; (with_reducible refine (ranger_bad.calls p _ _ BF.out).mono ?_); rintro e w1 ⟨rfl, n1, rfl⟩))
  obtain ⟨w2, hw2⟩ : ∃ w2, w.drewN n1 = w2 := ⟨_, rfl⟩
  have S2 := Aside0.mk (show DecS (w.drewN n1) g a b x s from S0.out)
  have G2 := Aside0.mk (grown_below (pw_below_drewN (Below.refl w.heap.size w) n1) (some g))
  rw [hw2] at S2 G2
  rw [hw2]
  clear hw2 hc0 hc1 hc2
  have hc0 := Sp.cell0 S2.out
  have hc1 := Sp.cell1 S2.out
  have hc2 := S2.out.cell2
  refine start_ (n := 12) (S := fun w' => w'.cell? ⟨g, 2, none⟩ = some (.int .u64 x) ∧ w'.cell? ⟨g, 0, none⟩ = some (.int .u64 a) ∧ w'.cell? ⟨g, 1, none⟩ = some (.int .u64 b)) (ds := []) #[false, false, false, false, false, false, false, false, false, false, false, false] (by kernel_rfl) rfl rfl ⟨hc2, hc0, hc1⟩ (fun hHeld => ?_)
  refine pure_ (i := 0) (N := some 15) (v := ?_) (a' := ?_) #[true, false, false, false, false, false, false, false, false, false, false, false] rfl rfl (by kernel_rfl) (fun _ _ _ h => h) (Or.inl ⟨by rfl, ?_⟩) ?_ ?_
  rotate_left
  · intro w'
    go_simp
    with_reducible rfl
  rotate_left
  · simp only [Act.put, List.setIfInBounds_toArray, List.set_cons_zero, List.set_cons_succ, i64_w, i32_w]
    rfl
  refine pure_ (i := 1) (N := some 16) (v := ?_) (a' := ?_) #[true, true, false, false, false, false, false, false, false, false, false, false] rfl rfl (by kernel_rfl) (fun _ _ _ h => h) (Or.inl ⟨by rfl, ?_⟩) ?_ ?_
  rotate_left
  · intro w'
    go_simp
    with_reducible rfl
  rotate_left
  · simp only [Act.put, List.setIfInBounds_toArray, List.set_cons_zero, List.set_cons_succ, i64_w, i32_w]
    rfl
  refine pure_ (i := 2) (N := some 17) (v := ?_) (a' := ?_) #[true, true, true, false, false, false, false, false, false, false, false, false] rfl rfl (by kernel_rfl) (fun _ _ _ h => h) (Or.inl ⟨by rfl, ?_⟩) ?_ ?_
  rotate_left
  · intro w'
    go_simp
    with_reducible rfl
  rotate_left
  · simp only [Act.put, List.setIfInBounds_toArray, List.set_cons_zero, List.set_cons_succ, i64_w, i32_w]
    rfl
  refine pure_ (i := 4) (N := some 19) (v := ?_) (a' := ?_) #[true, true, true, false, true, false, false, false, false, false, false, false] rfl rfl (by kernel_rfl) (fun _ _ _ h => h) (Or.inl ⟨by rfl, ?_⟩) ?_ ?_
  rotate_left
  · intro w'
    go_simp
    with_reducible rfl
  rotate_left
  · simp only [Act.put, List.setIfInBounds_toArray, List.set_cons_zero, List.set_cons_succ, i64_w, i32_w]
    rfl
  refine pure_ (i := 5) (N := some 20) (v := ?_) (a' := ?_) #[true, true, true, false, true, true, false, false, false, false, false, false] rfl rfl (by kernel_rfl) (fun _ _ _ h => h) (Or.inl ⟨by rfl, ?_⟩) ?_ ?_
  rotate_left
  · intro w'
    go_simp
    with_reducible rfl
  rotate_left
  · simp only [Act.put, List.setIfInBounds_toArray, List.set_cons_zero, List.set_cons_succ, i64_w, i32_w]
    rfl
  refine pure_ (i := 6) (N := some 21) (v := ?_) (a' := ?_) #[true, true, true, false, true, true, true, false, false, false, false, false] rfl rfl (by kernel_rfl) (fun _ _ _ h => h) (Or.inl ⟨by rfl, ?_⟩) ?_ ?_
  rotate_left
  · intro w'
    go_simp
    with_reducible rfl
  rotate_left
  · simp only [Act.put, List.setIfInBounds_toArray, List.set_cons_zero, List.set_cons_succ, i64_w, i32_w]
    rfl
  refine pure_ (i := 8) (N := some 23) (v := ?_) (a' := ?_) #[true, true, true, false, true, true, true, false, true, false, false, false] rfl rfl (by kernel_rfl) (fun _ _ _ h => h) (Or.inl ⟨by rfl, ?_⟩) ?_ ?_
  rotate_left
  · intro w'
    go_simp
    with_reducible rfl
  rotate_left
  · simp only [Act.put, List.setIfInBounds_toArray, List.set_cons_zero, List.set_cons_succ, i64_w, i32_w]
    rfl
  refine take_ (i := 3) (N := some 18) (v := ?_) (a' := ?_) #[true, true, true, true, true, true, true, false, true, false, false, false] rfl rfl (by kernel_rfl) (fun _ _ _ h => h) (Or.inl ⟨by rfl, ?_⟩) hHeld ?_ ?_
  rotate_left
  · rintro w' ⟨s0, s1, s2⟩
    go_simp
    with_reducible rfl
  rotate_left
  · simp only [Act.put, List.setIfInBounds_toArray, List.set_cons_zero, List.set_cons_succ, i64_w, i32_w]
    rfl
  refine take_ (i := 7) (N := some 22) (v := ?_) (a' := ?_) #[true, true, true, true, true, true, true, true, true, false, false, false] rfl rfl (by kernel_rfl) (fun _ _ _ h => h) (Or.inl ⟨by rfl, ?_⟩) hHeld ?_ ?_
  rotate_left
  · rintro w' ⟨s0, s1, s2⟩
    refine (load_run rfl (show _ = Value.pointer (some ⟨g, 0, none⟩) from rfl) (range2 s1 s2) Try.underlying59 rfl usz).trans ?_
    with_reducible rfl
  rotate_left
  · simp only [Act.put, List.setIfInBounds_toArray, List.set_cons_zero, List.set_cons_succ, i64_w, i32_w]
    rfl
  refine one_ (i := 9) (N := some 24) #[true, true, true, true, true, true, true, true, true, true, false, false] rfl rfl (by kernel_rfl) (by decide) (fun K hK => ?_)
  refine goes_ Try.func26 (by kernel_rfl) rfl #[.agg #[.int .u64 a, .int .u64 b], .int .i64 p] (by rfl) rfl rfl (by simp only [List.map_toArray, List.map_cons, List.map_nil]; rfl) ?_
  with_reducible refine (ranger_span_middle.calls a b p _ w2.drew MF.out).mono ?_
  rintro e w3 ⟨rfl, hB⟩
  refine ⟨_, rfl, ?_⟩
  have B3 := Aside0.mk (below_step (below_drew (Below.refl w2.heap.size w2)) hB)
  have D3 := Aside0.mk (show DecS w3 g a b x s from Sp.below S2.out (below_step (below_drew (Below.refl w2.heap.size w2)) hB))
  clear hB
  refine hK.out _ _ ⟨D3.out.cell2, (Sp.cell0 D3.out), (Sp.cell1 D3.out)⟩ (fun hHeld => ?_)
  clear hK K
  refine norm_ (a' := ?_) ?_ ?_
  rotate_left
  · show Act.put _ (some 24) _ = _
    simp only [Act.put, List.setIfInBounds_toArray, List.set_cons_zero, List.set_cons_succ, i64_w, i32_w]
    rfl
  refine pure_ (i := 10) (N := some 25) (v := ?_) (a' := ?_) #[true, true, true, true, true, true, true, true, true, true, true, false] rfl rfl (by kernel_rfl) (fun _ _ _ h => h) (Or.inl ⟨by rfl, ?_⟩) ?_ ?_
  rotate_left
  · intro w'
    go_simp
    with_reducible rfl
  rotate_left
  · simp only [Act.put, List.setIfInBounds_toArray, List.set_cons_zero, List.set_cons_succ, i64_w, i32_w]
    rfl
  refine pure_ (i := 11) (N := some 6) (v := ?_) (a' := ?_) #[true, true, true, true, true, true, true, true, true, true, true, true] rfl rfl (by kernel_rfl) (fun _ _ _ h => h) (Or.inl ⟨by rfl, ?_⟩) ?_ ?_
  rotate_left
  · intro w'
    go_simp
    with_reducible rfl
  rotate_left
  · simp only [Act.put, List.setIfInBounds_toArray, List.set_cons_zero, List.set_cons_succ, i64_w, i32_w]
    rfl
  refine done_ (by kernel_rfl) ?_
  have G3 := Aside0.mk (grown_step G2.out (grown_below B3.out (some g)))
  have E3 := Aside0.mk (show Sp w3 g 62 [.int .u64 x, .string s] a b from D3.out)
  clear hHeld hc0 hc1 hc2 G2 S2 B3
  go_wp2_with (first
    | (go_at_call 27; (with_reducible refine (take_calls g 62 [.int .u64 x, .string s] a b p bit w3 E3.out LT.out.1 LT.out.2.1 LT.out.2.2.1).mono ?_); rintro e w4 ⟨rfl, hS, hG⟩; rw [HTA.out.1, HTA.out.2] at hS; have D4 := Aside0.mk hS; have G4 := Aside0.mk (grown_step G3.out hG); clear hS hG)
    | (go_at_call 28; (with_reducible refine (shift_calls g 62 [.int .u64 x, .string s] a1 b1 w4 D4.out AB.out.1 AB.out.2).mono ?_); rintro e w5 ⟨rfl, hS, hG⟩; have D5 := Aside0.mk hS; have G5 := Aside0.mk (grown_step G4.out hG); clear hS hG))
  obtain ⟨tot, htot⟩ : ∃ t, nrm 4 a1 b1 x s = t := ⟨_, rfl⟩
  have JN := Aside0.mk (Jb_shift WD.out htot)
  obtain ⟨oki, hoki⟩ : ∃ x, (shr1 a1 b1).2.1 = x := ⟨_, rfl⟩
  obtain ⟨ai, hai⟩ : ∃ x, (shr1 a1 b1).2.2.1 = x := ⟨_, rfl⟩
  obtain ⟨bi, hbi⟩ : ∃ x, (shr1 a1 b1).2.2.2 = x := ⟨_, rfl⟩
  rw [hoki, hai, hbi] at JN
  rw [hai, hbi] at D5
  rw [hoki]
  have HTOT := Aside0.mk htot
  have HXL := Aside0.mk LT.out.2.2.2
  clear hoki hai hbi htot D3 E3 G3 D4 G4 WD HT LT AB HTA S0 MF BF
  go_loopg [8] 4 (fun q8 v8 w' => ∃ (ok : Bool) (a2 b2 x2 : Nat) (s2 : ByteArray), v8 = .bool ok ∧ Aside0 (Jb q8 ok a2 b2 x2 s2 tot ∧ x2 < 4294967296) ∧ Aside0 (Sp w' g 62 [.int .u64 x2, .string s2] a2 b2) ∧ Aside0 (w.grownBy w' (some g)))
  case atStart => exact ⟨oki, ai, bi, x, s, rfl, ⟨JN.out, HXL.out⟩, D5, G5⟩
  case round =>
    clear JN D5 G5 HXL
    obtain ⟨ok, a2, b2, x2, s2, rfl, JN, D6, G6⟩ := hrel
    rcases JN.out.1 with ⟨hok, f, hq, hw, he⟩ | ⟨hok, he⟩
    · subst hok
      subst hq
      have HW := Aside0.mk (show a2 < 4294967296 ∧ b2 < 4294967296 by have h1 := hw.1; have h2 := hw.2.1; omega)
      have HE := Aside0.mk (Jb_shift hw he)
      have HX := Aside0.mk JN.out.2
      have N6 := Aside0.mk (show DecS wr g a2 b2 x2 s2 from D6.out)
      clear hw he JN
      go_wp2_with (first
        | (go_at_call 24; (with_reducible refine (next_calls g a2 b2 x2 s2 wr N6.out HX.out).mono ?_); rintro e w7 ⟨rfl, hS, hG⟩; have D7 := Aside0.mk (show Sp w7 g 62 [.int .u64 (nxX x2 s2 : Nat), .string (nxS s2)] a2 b2 from hS); have G7 := Aside0.mk (grown_step G6.out hG); clear hS hG)
        | (go_at_call 28; (with_reducible refine (shift_calls g 62 [.int .u64 (nxX x2 s2 : Nat), .string (nxS s2)] a2 b2 w7 D7.out HW.out.1 HW.out.2).mono ?_); rintro e w8 ⟨rfl, hS, hG⟩; have D8 := Aside0.mk hS; have G8 := Aside0.mk (grown_step G7.out hG); clear hS hG))
      go_roundg f
      case measure => omega
      case rel => exact ⟨_, _, _, _, _, rfl, ⟨HE.out, nxX_lt x2 s2⟩, D8, G8⟩
    · subst hok
      have HE := Aside0.mk he
      clear he JN
      go_wp2
      go_ret2
      rw [HTOT.out, ← HE.out]
      exact ⟨rfl, D6.out, G6.out⟩
end Go.Proofs.Ytfijcedckpkpfaa.Hd
