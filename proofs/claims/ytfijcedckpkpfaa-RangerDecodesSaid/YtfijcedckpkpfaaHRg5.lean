/- ranger.Encode, walked by hand. -/
import Derived.Test.YtfijcedckpkpfaaHRg4
set_option linter.unusedVariables false
set_option linter.unusedSimpArgs false
set_option linter.unusedSectionVars false
namespace Go.Proofs.Ytfijcedckpkpfaa.Hd
open Go.RowKit Go.Proofs.YtfijcedckpkpfaaW.PrintWords Go.Proofs.YtfijcedckpkpfaaW.PrintLast Go.Proofs.YtfijcedckpkpfaaW.PrintMore Go.Proofs.Ytfijcedckpkpfaa.Hw Go.Proofs.Ytfijcedckpkpfaa.Com Go.Proofs.Ytfijcedckpkpfaa.Rn Go.Proofs.Ytfijcedckpkpfaa.P
attribute [local go_sem] max2_int min2_int max_two min_two max_three min_three max_four min_four
theorem conv_run {P : Program} {o : Oper} {a : Act} {W : World} {src dst : TypeId} {x : Operand} {v s : Value} (ho : o.op = .convert src dst x) (hx : a.eval x = v) (h : (convert src dst v).run P W = .ok s W) : (execOp a.eval o).run P W = .ok (.value s) W := by simp [execOp, ho, hx, h]
def encP (l0 : List Bool) (l1 : List Int) : ByteArray × Int :=
  if l0.length ≠ l1.length then (⟨#[]⟩, 1) else if l1.any badP = true then (⟨#[]⟩, 2) else if l0.length = 0 then (⟨#[]⟩, 0) else (strOfNums (enc l0 l1 0 4294967295), 0)
def ranger_Encode.f (l0 : List Bool) (l1 : List Int) : Option (ByteArray × Int) := if l0.length ≤ 4294967296 ∧ l1.length ≤ 4294967296 then some (encP l0 l1) else none
theorem not_bad {l : List Int} (h : l.any badP = false) : ∀ x ∈ l, 1 ≤ x ∧ x ≤ 2047 := by
  intro x hx
  have := List.any_eq_false.1 h x hx
  unfold badP at this
  rw [decide_eq_true_eq] at this
  omega
set_option maxHeartbeats 4000000 in
set_option maxRecDepth 100000 in
theorem ranger_Encode.calls (A0 : Option Addr) (c0 : Nat) (l0 : List Bool) (A1 : Option Addr) (c1 : Nat) (l1 : List Int) (r1 : ByteArray) (r2 : Int) (w : World) (hr0 : Kd.C Kd.bool w A0 l0.length l0) (hc0 : l0.length ≤ c0) (hr1 : Kd.C (Kd.int .i64) w A1 l1.length l1) (hc1 : l1.length ≤ c1) (h : ranger_Encode.f l0 l1 = some (r1, r2)) :
    Calls Try.prog 8 #[.slice A0 l0.length c0, .slice A1 l1.length c1] w fun e w' => e = .returned (.tuple #[.string r1, .int .i64 r2]) ∧ Below w.heap.size w w' := by
  unfold ranger_Encode.f at h
  by_cases hn : l0.length ≤ 4294967296 ∧ l1.length ≤ 4294967296
  · rw [if_pos hn] at h
    replace h := Option.some.inj h
    unfold encP at h
    have HR0 := Aside0.mk hr0
    have HR1 := Aside0.mk hr1
    have HN := Aside0.mk hn
    by_cases h1 : l0.length = l1.length
    · rw [if_neg (fun e => e h1)] at h
      have t1 : ((l0.length : Int) != (l1.length : Int)) = false := by rw [bne_eq_false_iff_eq]; omega
      cases h2 : l1.any badP with
      | true =>
        rw [h2, if_pos rfl] at h
        obtain ⟨rfl, rfl⟩ := Prod.mk.inj h
        clear h hr0 hc0 hr1 hc1 hn
        go_enter Try.func8, Try.ntmps8
        go_wp2_with (first
          | (go_at_call 17; (with_reducible refine (contains_calls _ _ l1 _ HR1.out (Nat.le_trans HN.out.2 (by decide))).mono ?_); rintro e w1 ⟨rfl, hB⟩; rw [h2]; have B1 := Aside0.mk hB; clear hB))
        go_ret2
        exact ⟨rfl, B1.out⟩
      | false =>
        rw [h2, if_neg (by decide)] at h
        have HP := Aside0.mk (not_bad h2)
        by_cases h3 : l0.length = 0
        · rw [if_pos h3] at h
          obtain ⟨rfl, rfl⟩ := Prod.mk.inj h
          have t3 : ((l0.length : Int) == 0) = true := by rw [beq_iff_eq]; omega
          clear h hr0 hc0 hr1 hc1 hn
          go_enter Try.func8, Try.ntmps8
          go_wp2_with (first
            | (go_at_call 17; (with_reducible refine (contains_calls _ _ l1 _ HR1.out (Nat.le_trans HN.out.2 (by decide))).mono ?_); rintro e w1 ⟨rfl, hB⟩; rw [h2]; have B1 := Aside0.mk hB; clear hB))
          go_ret2
          exact ⟨rfl, B1.out⟩
        · rw [if_neg h3] at h
          obtain ⟨rfl, rfl⟩ := Prod.mk.inj h
          have t3 : ((l0.length : Int) == 0) = false := by rw [beq_eq_false_iff_ne]; omega
          have H1 := Aside0.mk h1
          clear h hr0 hc0 hr1 hc1 hn h1 h3
          go_enter Try.func8, Try.ntmps8
          go_wp2_with (first
            | (go_at_call 17; (with_reducible refine (contains_calls _ _ l1 _ HR1.out (Nat.le_trans HN.out.2 (by decide))).mono ?_); rintro e w1 ⟨rfl, hB⟩; rw [h2]; have B1 := Aside0.mk hB; clear hB)
            | (go_at_call 19; (with_reducible refine (encode_calls _ _ l0 _ _ l1 _ (Kd.C_below HR0.out B1.out) (Kd.C_below HR1.out B1.out) H1.out HN.out.1 HP.out).mono ?_); rintro e w2 ⟨v, rfl, hR, hB⟩; have B2 := Aside0.mk (below_step B1.out hB); obtain ⟨A, c, rfl, hlc, hC⟩ := Kd.R_reads hR; have HC := Aside0.mk hC; clear hR hB hlc hC)
            | ((with_reducible refine gate_dst (N := 22) rfl ?_); refine val_event rfl (conv_run rfl rfl (Kd.C_string (P := Try.prog) (c := c) Try.underlying52 Try.underlying5 Try.underlying9 HC.out)) ?_))
          go_ret2
          exact ⟨rfl, B2.out⟩
    · rw [if_pos h1] at h
      obtain ⟨rfl, rfl⟩ := Prod.mk.inj h
      have t1 : ((l0.length : Int) != (l1.length : Int)) = true := by rw [bne_iff_ne]; omega
      clear h hr0 hc0 hr1 hc1 hn h1
      go_enter Try.func8, Try.ntmps8
      go_wp2
      go_ret2
      exact ⟨rfl, by repeat (first | (with_reducible first | apply below_alloc | apply pw_below_drewN | apply below_drew1) | exact Below.refl _ _)⟩
  · rw [if_neg hn] at h
    cases h
end Go.Proofs.Ytfijcedckpkpfaa.Hd
