/- Whether lengths may be (chapter 6), for later chapters. The document's side. -/
import Derived.Test.YtoikiefegkgedaaKrA
import Derived.Test.YtoikiefegkgedaaPx3
set_option linter.unusedVariables false
set_option linter.unusedSimpArgs false
set_option linter.unusedSectionVars false
namespace Go.Proofs.Ytoikiefegkgedaa.Pure
open Go.RowKit Go.Proofs.YtoikiefegkgedaaW.PrintWords Go.Proofs.YtoikiefegkgedaaW.PrintMore Go.Proofs.Ytoikiefegkgedaa.P Go.Proofs.Ytoikiefegkgedaa.Com

theorem rused_ev (l : List Int) (hl : l.length ≤ 17592186044416) : Ev (fun k => gladstoneref06_Used.f k l) (Us l) := by
  have h := Ev.along l (fun k s i => gladstoneref06_Used.l0 k l s i) (fun s t => usedL s t) (fun i s => 0 ≤ s ∧ s ≤ i) ?_ ?_ 0 0 (Nat.zero_le _) (by omega)
  · exact h
  · intro s _
    refine Ev.step (f := fun _ => some s) (fun k => ?_) (Ev.now _)
    simp only [gladstoneref06_Used.l0]
    rw [if_neg (by omega)]
  · intro i s a t hs hd ha hlt ih
    refine Ev.step (f := fun k => gladstoneref06_Used.l0 k l (if 0 < a then s + 1 else s) ((i + 1 : Nat) : Int)) (fun k => ?_) (ih _ (by split <;> omega))
    simp only [gladstoneref06_Used.l0]
    rw [if_pos (by omega), if_pos (by omega), rd_some ha, w64 (x := (i : Int) + 1) (by omega) (by omega), w64 (x := s + 1) (by omega) (by omega)]
    by_cases h : 0 < a <;> simp [h]

theorem rsum_ev (l : List Int) (hl : l.length ≤ 17592186044416) (n : Int) (h1 : 1 ≤ n) (h2 : n ≤ 16) : Ev (fun k => gladstoneref06_Sum.f k l n) (Su n l) := by
  have h := Ev.along l (fun k s i => gladstoneref06_Sum.l0 k l n s i) (fun s t => sumL n s t) (fun i s => 0 ≤ s ∧ s ≤ i * 32768) ?_ ?_ 0 0 (Nat.zero_le _) (by omega)
  · refine Ev.step (fun k => ?_) h
    simp only [gladstoneref06_Sum.f]
    rw [if_neg (by omega)]
    simp only [gladstoneref06_Sum.j0]
    rw [if_neg (by simp; omega)]
    rfl
  · intro s _
    refine Ev.step (f := fun _ => some s) (fun k => ?_) (Ev.now _)
    simp only [gladstoneref06_Sum.l0]
    rw [if_neg (by omega)]
  · intro i s a t hs hd ha hlt ih
    have hw := wt_bd n a h2
    refine Ev.step (f := fun k => gladstoneref06_Sum.l0 k l n (s + wt n a) ((i + 1 : Nat) : Int)) (fun k => ?_) (ih _ (by omega))
    simp only [gladstoneref06_Sum.l0]
    rw [if_pos (by omega), if_pos (by omega), rd_some ha, w64 (x := (i : Int) + 1) (by omega) (by omega)]
    by_cases ha1 : 1 ≤ a
    · by_cases ha2 : a ≤ n
      · rw [if_pos (by omega), if_pos ha2, w64 (x := n - a) (by omega) (by omega), wu64 (x := n - a) (by omega) (by omega), if_pos (by omega), shl64 (by omega) (by omega)]
        have e : wt n a = 2 ^ (n - a).toNat := if_pos ⟨ha1, ha2⟩
        rw [← e, w64 (x := s + wt n a) (by omega) (by omega)]
        rfl
      · rw [if_pos (by omega), if_neg ha2]
        have e : wt n a = 0 := if_neg (by omega)
        rw [e, Int.add_zero]
        rfl
    · rw [if_neg (by omega)]
      have e : wt n a = 0 := if_neg (by omega)
      rw [e, Int.add_zero]
      rfl

theorem rsumq_ev (l : List Int) (hl : l.length ≤ 17592186044416) (n : Int) : Ev (fun k => gladstoneref06_Sum.f k l n) (Sq n l) := by
  unfold Sq
  by_cases h : n < 1 ∨ 16 < n
  · rw [if_pos h]
    refine Ev.step (f := fun _ => some 0) (fun k => ?_) (Ev.now _)
    simp only [gladstoneref06_Sum.f]
    by_cases h1 : n < 1
    · rw [if_pos h1]; simp only [gladstoneref06_Sum.j0]; rfl
    · rw [if_neg h1]; simp only [gladstoneref06_Sum.j0]; rw [if_pos (by simp; omega)]
  · rw [if_neg h]
    exact rsum_ev l hl n (by omega) (by omega)

/-! ### the reference's check -/
theorem rchk_ev (l : List Int) (hl : l.length ≤ 17592186044416) (n : Int) : Ev (fun k => gladstoneref06_Check.f k l n) (chk l n) := by
  unfold chk
  by_cases h : n < 1 ∨ 16 < n
  · rw [if_pos h]
    refine Ev.step (f := fun _ => some 1) (fun k => ?_) (Ev.now _)
    simp only [gladstoneref06_Check.f]
    by_cases h1 : n < 1
    · rw [if_pos h1]; simp only [gladstoneref06_Check.j0]; rfl
    · rw [if_neg h1]; simp only [gladstoneref06_Check.j0]; rw [if_pos (by simp; omega)]
  · rw [if_neg h]
    refine Ev.step (f := fun k => if (l.length : Int) > 1024 then (some 5) else (gladstoneref06_Check.l0 k l n 0)) (fun k => ?_) ?_
    · simp only [gladstoneref06_Check.f]
      rw [if_neg (by omega)]
      simp only [gladstoneref06_Check.j0]
      rw [if_neg (by simp; omega)]
    · by_cases h5 : 1024 < l.length
      · rw [if_pos h5]
        exact Ev.ifp (by omega) (Ev.now _)
      · rw [if_neg h5]
        refine Ev.ifn (by omega) ?_
        have key := Ev.along l (fun k (_ : Unit) i => gladstoneref06_Check.l0 k l n i) (fun _ t => if t.all (okB n) = false then 2 else if l.all (okB n) = true then chk2 l n else 2) (fun i _ => (l.take i).all (okB n) = true) ?_ ?_ 0 () (Nat.zero_le _) (by simp)
        · refine Ev.congr (fun k => rfl) ?_
          have e : (if l.all (okB n) = false then (2 : Int) else if l.all (okB n) = true then chk2 l n else 2) = (if l.all (fun x => decide (0 ≤ x ∧ x ≤ n)) = false then 2 else if Us l = 0 then 7 else if Us l = 1 then (if Su 1 l = 1 then 0 else 6) else if Su n l = 2 ^ n.toNat then 0 else 6) := by
            show _ = if l.all (okB n) = false then (2 : Int) else chk2 l n
            cases l.all (okB n) <;> rfl
          rw [← e]
          exact key
        · intro s hs
          rw [List.take_length] at hs
          have e : (if ([] : List Int).all (okB n) = false then (2 : Int) else if l.all (okB n) = true then chk2 l n else 2) = chk2 l n := by simp [hs]
          rw [e]
          refine Ev.step (f := fun k => (gladstoneref06_Used.f k l).bind fun t154 => (if t154 = 0 then (some 7) else (if t154 = 1 then ((gladstoneref06_Sum.f k l n).bind fun t155 => (gladstoneref06_Check.j2 k l n (2 ^ n.toNat) t154 (t155 != (2 ^ n.toNat / 2)))) else (gladstoneref06_Check.j2 k l n (2 ^ n.toNat) t154 false)))) (fun k => ?_) ?_
          · have e2 : (0 : Int) ≤ 2 ^ n.toNat ∧ (2 : Int) ^ n.toNat ≤ 65536 := by
              have : ∀ k : Nat, k ≤ 16 → (0 : Int) ≤ 2 ^ k ∧ (2 : Int) ^ k ≤ 65536 := by decide
              exact this _ (by omega)
            simp only [gladstoneref06_Check.l0]
            rw [if_neg (by omega), wu64 (x := n) (by omega) (by omega), if_pos (by omega), shl64 (by omega) (by omega), Int.tdiv_eq_ediv_of_nonneg (by omega), w64 (x := 2 ^ n.toNat / 2) (by omega) (by omega)]
          · refine Ev.bind (rused_ev l hl) ?_
            unfold chk2
            by_cases u0 : Us l = 0
            · exact Ev.ifp u0 (by rw [if_pos u0]; exact Ev.now _)
            · refine Ev.ifn u0 ?_
              rw [if_neg u0]
              by_cases u1 : Us l = 1
              · refine Ev.ifp u1 ?_
                rw [if_pos u1]
                refine Ev.bind (rsum_ev l hl n (by omega) (by omega)) ?_
                obtain ⟨x, hx0, hxm, hx⟩ := one_used l u1
                have hxn : x ≤ n := by
                  have := List.all_eq_true.1 hs x hxm
                  simp [okB] at this
                  omega
                rw [hx n, hx 1]
                by_cases e1 : x = 1
                · rw [if_pos ((wt_one x hx0).2 e1)]
                  refine Ev.step (f := fun _ => some 0) (fun k => ?_) (Ev.now _)
                  have : (wt n x != 2 ^ n.toNat / 2) = false := by rw [bne_eq_false_iff_eq]; exact (wt_half n x (by omega) (by omega) hx0 hxn).2 e1
                  simp only [gladstoneref06_Check.j2]
                  rw [this, if_neg (by simp), if_neg (by omega)]
                · rw [if_neg (fun h' => e1 ((wt_one x hx0).1 h'))]
                  refine Ev.step (f := fun _ => some 6) (fun k => ?_) (Ev.now _)
                  have : (wt n x != 2 ^ n.toNat / 2) = true := by rw [bne_iff_ne]; exact fun h' => e1 ((wt_half n x (by omega) (by omega) hx0 hxn).1 h')
                  simp only [gladstoneref06_Check.j2]
                  rw [this, if_pos rfl]
              · refine Ev.ifn u1 ?_
                rw [if_neg u1]
                have := Us_nonneg l
                refine Ev.step (f := fun k => (gladstoneref06_Sum.f k l n).bind fun t156 => (if t156 = 2 ^ n.toNat then (some 0) else (some 6))) (fun k => ?_) ?_
                · simp only [gladstoneref06_Check.j2]
                  rw [if_neg (by simp), if_pos (by omega)]
                · refine Ev.bind (rsum_ev l hl n (by omega) (by omega)) ?_
                  by_cases s1 : Su n l = 2 ^ n.toNat
                  · refine Ev.ifp s1 ?_; rw [if_pos s1]; exact Ev.now _
                  · refine Ev.ifn s1 ?_; rw [if_neg s1]; exact Ev.now _
        · intro i s a t hs hd ha hlt ih
          refine Ev.step (f := fun k => if a < 0 then some 2 else if a > n then some 2 else gladstoneref06_Check.l0 k l n ((i + 1 : Nat) : Int)) (fun k => ?_) ?_
          · simp only [gladstoneref06_Check.l0]
            rw [if_pos (by omega), if_pos (by omega), rd_some ha, w64 (x := (i : Int) + 1) (by omega) (by omega)]
            rfl
          · by_cases a0 : a < 0
            · have e : okB n a = false := by simp [okB]; omega
              rw [if_pos (by simp [e])]
              exact Ev.ifp a0 (Ev.now _)
            · by_cases a1 : a > n
              · have e : okB n a = false := by simp [okB]; omega
                rw [if_pos (by simp [e])]
                exact Ev.ifn a0 (Ev.ifp a1 (Ev.now _))
              · have e : okB n a = true := by simp [okB]; omega
                have e2 : ((a :: t).all (okB n)) = t.all (okB n) := by simp [e]
                rw [e2]
                refine Ev.ifn a0 (Ev.ifn a1 (ih () ?_))
                rw [List.take_add_one, ha]
                simp [hs, e]

end Go.Proofs.Ytoikiefegkgedaa.Pure
