/- What bits are told to, walked by hand: closures that put a bit and a chance behind two rows, and that take a bit from a decoder. -/
import Derived.Test.YtldhkhppefnmnaaHRgA
import Derived.Test.YtldhkhppefnmnaaHw
import Derived.StillTailTactics
import Derived.Lib.SliceRun
import Derived.Test.YtldhkhppefnmnaaByt
set_option linter.unusedVariables false
set_option linter.unusedSimpArgs false
set_option linter.unusedSectionVars false
namespace Go.Proofs.Ytldhkhppefnmnaa.Hd
open Go Go.RowKit Go.Proofs.YtldhkhppefnmnaaW.PrintWords Go.Proofs.YtldhkhppefnmnaaW.PrintLast Go.Proofs.YtldhkhppefnmnaaW.PrintMore Go.Proofs.Ytldhkhppefnmnaa.Hw Go.Proofs.Ytldhkhppefnmnaa.Com Go.Proofs.Ytldhkhppefnmnaa.Rn Go.Proofs.Ytldhkhppefnmnaa.P
attribute [local go_sem] max2_int min2_int max_two min_two max_three min_three max_four min_four
theorem info3 : (Try.prog.info? 3).map (fun i => (i.zero, i.size, i.bytes)) = some (some (.int .i64 0), 1, 8) := by kernel_rfl
theorem infoB : (Try.prog.info? 4).map (fun i => (i.zero, i.size, i.bytes)) = some (some (.bool false), 1, 1) := by kernel_rfl
theorem one_at {α : Type} {enc : α → Value} {h1 : ∀ x, (enc x).oneCell' = true} {W : World} {k : Nat} {e : TypeId} {x : α} (h : W.heap[k]? = some (.cells #[enc x] e (0, 0))) : (Kd.scalar enc h1).C W (some ⟨k, 0, none⟩) 1 [x] := by
  refine ⟨rfl, by decide, fun _ => ⟨_, rfl, fun j p hj => ?_⟩⟩
  obtain rfl : j = 0 := by
    rcases j with _ | j
    · rfl
    · simp at hj
  obtain rfl : x = p := by simpa using hj
  refine ⟨[enc x], rfl, rfl, fun i u hu => ?_⟩
  rcases i with _ | i
  · simp at hu
    subst hu
    show W.cell? ((⟨k, 0, none⟩ : Addr).add (0 * 1 + 0)) = _
    rw [add_plain]
    exact (blk_cell h 0).trans rfl
  · simp at hu
section
variable {P : Program} {ops : Array Oper} {Q : Exit → Act → World → Prop}
/-- A literal, in a region that draws. -/
theorem lit_step {oi : Oper} {N : Option Tmp} {a : Act} {W : World} {K : Act → World → Prop} {cs : Array Value} {e : TypeId} {n : Nat} (hw : Region.wanted oi (yielded ops a.tmps) = true) (hN : oi.dst = N) (hr : (execOp a.eval oi).run P W = .ok (.value (.slice (some ⟨W.heap.size, 0, none⟩) n n)) (W.alloc (.cells cs e)))
    (h : ∀ k W1, k = W.heap.size → W1.heap[k]? = some (.cells cs e (0, 0)) → Below W.heap.size W W1 → K (a.put N (.slice (some ⟨k, 0, none⟩) n n)) W1) : if Region.wanted oi (yielded ops a.tmps) = true then Oper.wp P oi a W K Q else K (a.put N undef) W :=
  value_ hw hN hr (h _ _ rfl (blk_new W _) (below_alloc (Below.refl _ _) _))
end
/-- Between the steps of the two appends. -/
structure NJ (w : World) (base : Nat) (X : Nat → Prop) (gb gp : Nat) (cb cp v1 v2 : Value) (bl : List Bool) (pl : List Int) (W : World) : Prop where
  hb : W.heap[gb]? = some (.cells #[cb] 37 (0, 0))
  hp : W.heap[gp]? = some (.cells #[cp] 33 (0, 0))
  rb : Kd.R Kd.bool 4 W base (fun k => ¬ X k) v1 bl
  rp : Kd.R (Kd.int .i64) 3 W base (fun k => ¬ X k) v2 pl
  kp : Kp (fun i => base ≤ i ∧ ¬ X i) w W
  fx : ∀ k, X k → k < W.heap.size
  bs : base ≤ W.heap.size
section
variable {w W W1 : World} {base : Nat} {X : Nat → Prop} {gb gp : Nat} {cb cp v1 v2 : Value} {bl : List Bool} {pl : List Int}
theorem NJ.fresh (h : NJ w base X gb gp cb cp v1 v2 bl pl W) : ∀ k, W.heap.size ≤ k → ¬ X k := fun k hk e => by have := h.fx k e; omega
theorem NJ.below (h : NJ w base X gb gp cb cp v1 v2 bl pl W) (b : Below W.heap.size W W1) : NJ w base X gb gp cb cp v1 v2 bl pl W1 :=
  ⟨blk_below h.hb b, blk_below h.hp b, Kd.R_below h.rb b, Kd.R_below h.rp b, h.kp.trans (Kp.below b), fun k hk => Nat.lt_of_lt_of_le (h.fx k hk) b.size, Nat.le_trans h.bs b.size⟩
theorem NJ.appB (h : NJ w base X gb gp cb cp v1 v2 bl pl W) {v3 : Value} {bl' : List Bool} (hR : Kd.R Kd.bool 4 W1 base (fun k => ¬ X k) v3 bl') (g : W.grownBy W1 v1.ownBlock) : NJ w base X gb gp cb cp v3 v2 bl' pl W1 :=
  ⟨blk_grown h.hb g (Kd.R_ne h.rb h.hb (by decide)), blk_grown h.hp g (Kd.R_ne h.rb h.hp (by decide)), hR,
    Kd.R_over' h.rp (Kd.R_typed h.rb) (by intro q hq; simp [Kd.int, Kd.scalar] at hq; subst hq; decide) g,
    h.kp.trans (Kp.grown g (fun k hk => ⟨Kd.R_base h.rb k hk, h.rb.1 k hk⟩)), fun k hk => Nat.lt_of_lt_of_le (h.fx k hk) g.size, Nat.le_trans h.bs g.size⟩
theorem NJ.appP (h : NJ w base X gb gp cb cp v1 v2 bl pl W) {v3 : Value} {pl' : List Int} (hR : Kd.R (Kd.int .i64) 3 W1 base (fun k => ¬ X k) v3 pl') (g : W.grownBy W1 v2.ownBlock) : NJ w base X gb gp cb cp v1 v3 bl pl' W1 :=
  ⟨blk_grown h.hb g (Kd.R_ne h.rp h.hb (by decide)), blk_grown h.hp g (Kd.R_ne h.rp h.hp (by decide)),
    Kd.R_over' h.rb (Kd.R_typed h.rp) (by intro q hq; simp [Kd.bool, Kd.scalar] at hq; subst hq; decide) g, hR,
    h.kp.trans (Kp.grown g (fun k hk => ⟨Kd.R_base h.rp k hk, h.rp.1 k hk⟩)), fun k hk => Nat.lt_of_lt_of_le (h.fx k hk) g.size, Nat.le_trans h.bs g.size⟩
theorem NJ.setB (h : NJ w base X gb gp cb cp v1 v2 bl pl W) (hg : base ≤ gb ∧ ¬ X gb) (v : Value) : NJ w base X gb gp v cp v1 v2 bl pl (W.setCell ⟨gb, 0, none⟩ v) :=
  ⟨blk_set h.hb 0 v, blk_far (p := ⟨gb, 0, none⟩) h.hp (blk_ne h.hp h.hb (by decide)) v, Kd.R_set h.rb h.hb (by intro q hq; simp [Kd.bool, Kd.scalar] at hq; subst hq; decide) 0 v, Kd.R_set h.rp h.hb (by intro q hq; simp [Kd.int, Kd.scalar] at hq; subst hq; decide) 0 v, h.kp.set (p := ⟨gb, 0, none⟩) hg v, fun k hk => by simpa using h.fx k hk, by simpa using h.bs⟩
theorem NJ.setP (h : NJ w base X gb gp cb cp v1 v2 bl pl W) (hg : base ≤ gp ∧ ¬ X gp) (v : Value) : NJ w base X gb gp cb v v1 v2 bl pl (W.setCell ⟨gp, 0, none⟩ v) :=
  ⟨blk_far (p := ⟨gp, 0, none⟩) h.hb (blk_ne h.hb h.hp (by decide)) v, blk_set h.hp 0 v, Kd.R_set h.rb h.hp (by intro q hq; simp [Kd.bool, Kd.scalar] at hq; subst hq; decide) 0 v, Kd.R_set h.rp h.hp (by intro q hq; simp [Kd.int, Kd.scalar] at hq; subst hq; decide) 0 v, h.kp.set (p := ⟨gp, 0, none⟩) hg v, fun k hk => by simpa using h.fx k hk, by simpa using h.bs⟩
end
/-- A variable that is read, and two rows in variables. -/
def EncS (xc : Value) (tx : TypeId) (base : Nat) (X : Nat → Prop) (gx gb gp : Nat) (bl : List Bool) (pl : List Int) (W : World) : Prop :=
  W.heap[gx]? = some (.cells #[xc] tx (0, 0)) ∧ X gx ∧ (base ≤ gb ∧ ¬ X gb) ∧ (base ≤ gp ∧ ¬ X gp) ∧ ∃ vb vp, NJ W base X gb gp vb vp vb vp bl pl W
theorem EncS.move {xc xc' : Value} {tx : TypeId} {base : Nat} {X : Nat → Prop} {gx gb gp : Nat} {bl : List Bool} {pl : List Int} {W W1 : World} (h : EncS xc tx base X gx gb gp bl pl W) (hm : ∀ i, i < W.heap.size → ¬ X i → W1.heap[i]? = W.heap[i]?) (hx : W1.heap[gx]? = some (.cells #[xc'] tx (0, 0))) (hs : W.heap.size ≤ W1.heap.size) : EncS xc' tx base X gx gb gp bl pl W1 := by
  obtain ⟨h1, h2, h3, h4, vb, vp, J⟩ := h
  exact ⟨hx, h2, h3, h4, vb, vp, (hm gb (blk_lt J.hb) h3.2).trans J.hb, (hm gp (blk_lt J.hp) h4.2).trans J.hp, Kd.R_step J.rb (fun k hk hl => hm k hl hk), Kd.R_step J.rp (fun k hk hl => hm k hl hk), Kp.refl _ _, fun k hk => Nat.lt_of_lt_of_le (J.fx k hk) hs, Nat.le_trans J.bs hs⟩
/-- A bit of a number. -/
def bitOf (x k : Nat) : Bool := x / 2 ^ k % 2 == 1
theorem bit_and (x k : Nat) (hx : x < 9223372036854775808) : (Go.bits .and .i64 ((x : Int) / 2 ^ k) 1 == 1) = bitOf x k := by
  have e1 : ((x : Int) / 2 ^ k) = ((x / 2 ^ k : Nat) : Int) := by simp
  have h1 : x / 2 ^ k ≤ x := Nat.div_le_self _ _
  rw [e1, show (1 : Int) = ((1 : Nat) : Int) from rfl, (bits_i64 (x / 2 ^ k) 1 (by omega) (by omega)).1, Nat.and_one_is_mod]
  unfold bitOf
  generalize x / 2 ^ k = y
  rw [Bool.eq_iff_iff, beq_iff_eq, beq_iff_eq]
  omega
/-- A variable that leads to a decoder. -/
def DcS (gv g : Nat) (d : Ds) (W : World) : Prop := W.heap[gv]? = some (.cells #[.pointer (some ⟨g, 0, none⟩)] 47 (0, 0)) ∧ DecD W g d ∧ OkD d
theorem DcS.move {gv g : Nat} {d : Ds} {W W1 : World} (h : DcS gv g d W) (hm : W1.heap[g]? = W.heap[g]?) (hx : W1.heap[gv]? = W.heap[gv]?) : DcS gv g d W1 := ⟨hx.trans h.1, hm.trans h.2.1, h.2.2⟩
theorem DcS.ne {gv g : Nat} {d : Ds} {W : World} (h : DcS gv g d W) : gv ≠ g := blk_ne h.1 h.2.1 (by decide)
theorem DcS.bit {gv g : Nat} {d : Ds} {W : World} (h : DcS gv g d W) (p : Nat) (hp1 : 1 ≤ p) (hp : p ≤ 2047) :
    Calls Try.prog 19 #[.pointer (some ⟨g, 0, none⟩), .int .i64 (p : Int)] W fun e w' => e = .returned (.tuple #[.bool (dB d p), .int .i64 0]) ∧ DcS gv g (dN d p) w' ∧ Kp (fun i => i = g) W w' := by
  have hne := h.ne
  obtain ⟨h1, h4, h5⟩ := h
  refine (Bit_d g d p W h4 h5 hp1 hp).mono ?_
  rintro e w' ⟨rfl, hS, hG⟩
  have hk : Kp (fun i => i = g) W w' := Kp.grown hG (fun k hk => by injection hk with hk; exact hk.symm)
  exact ⟨rfl, ⟨hk.at_ h1 hne, hS, dN_ok h5 (by omega)⟩, hk⟩
end Go.Proofs.Ytldhkhppefnmnaa.Hd
/- markov's closures and its rows of chances, walked by hand. -/
namespace Go.Proofs.Ytldhkhppefnmnaa.Hd
open Go Go.RowKit Go.Proofs.YtldhkhppefnmnaaW.PrintWords Go.Proofs.YtldhkhppefnmnaaW.PrintLast Go.Proofs.YtldhkhppefnmnaaW.PrintMore Go.Proofs.Ytldhkhppefnmnaa.Hw Go.Proofs.Ytldhkhppefnmnaa.Com Go.Proofs.Ytldhkhppefnmnaa.Rn Go.Proofs.Ytldhkhppefnmnaa.P
attribute [local go_sem] max2_int min2_int max_two min_two max_three min_three max_four min_four
theorem bit_and8 (x k : Nat) (hx : x < 256) : (Go.bits .and .u8 ((x : Int) / 2 ^ k) 1 == 1) = bitOf x k := by
  have e1 : ((x : Int) / 2 ^ k) = ((x / 2 ^ k : Nat) : Int) := by simp
  have h1 : x / 2 ^ k ≤ x := Nat.div_le_self _ _
  rw [e1, show (1 : Int) = ((1 : Nat) : Int) from rfl, (bits_u8 (x / 2 ^ k) 1 (by omega) (by omega)).1, Nat.and_one_is_mod]
  unfold bitOf
  generalize x / 2 ^ k = y
  rw [Bool.eq_iff_iff, beq_iff_eq, beq_iff_eq]
  omega
set_option maxHeartbeats 8000000 in
set_option maxRecDepth 100000 in
theorem tellE_calls (x k : Nat) (p : Int) (base : Nat) (X : Nat → Prop) (gx gb gp : Nat) (bl : List Bool) (pl : List Int) (w : World) (hx : x < 256) (hk : k ≤ 7) (hE : EncS (.int .u8 (x : Int)) 5 base X gx gb gp bl pl w) (hb : bl.length ≤ 4294967296) (hp : pl.length ≤ 4294967296) :
    Calls Try.prog 12 #[.int .i64 p, .int .i64 (k : Int), .pointer (some ⟨gx, 0, none⟩), .pointer (some ⟨gb, 0, none⟩), .pointer (some ⟨gp, 0, none⟩)] w fun e w' => e = .returned (.bool (bitOf x k)) ∧ EncS (.int .u8 (x : Int)) 5 base X gx gb gp (bl ++ [bitOf x k]) (pl ++ [p]) w' ∧ Kp (fun i => base ≤ i ∧ ¬ X i) w w' := by
  obtain ⟨hgx, hXx, hGB, hGP, vb, vp, J⟩ := hE
  have HX := Aside0.mk hXx
  have HGX := Aside0.mk hgx
  have HGB := Aside0.mk hGB
  have HGP := Aside0.mk hGP
  have HLB := Aside0.mk hb
  have HLP := Aside0.mk hp
  have J0 := Aside0.mk (show NJ w base X gb gp vb vp vb vp bl pl w.drew from J.below (below_drew (Below.refl _ _)))
  have hcx := (blk_cell hgx 0).trans (rfl : _ = some (Value.int .u8 (x : Int)))
  have hcb := (blk_cell J.hb 0).trans (rfl : _ = some vb)
  have hcp := (blk_cell J.hp 0).trans (rfl : _ = some vp)
  obtain ⟨bit, hbit⟩ : ∃ b, bitOf x k = b := ⟨_, rfl⟩
  obtain ⟨DD, hDD⟩ : ∃ DD : Int, (x : Int) / 2 ^ ((k : Int)).toNat = DD := ⟨_, rfl⟩
  have hsh : Op.shift BinOp.shr IntKind.u8 (x : Int) IntKind.i64 (k : Int) = pure (.int .u8 DD) := by
    rw [← hDD]
    exact shift_shr .u8 .i64 (x : Int) _ (by omega) (by simp [IntKind.bits]; omega)
  have hbt : (Go.bits .and .u8 DD 1 == 1) = bit := by
    rw [← hDD, Int.toNat_natCast, ← hbit]
    exact bit_and8 x k hx
  rw [hbit]
  clear hgx hXx hGB hGP J hx hk hb hp hbit hDD
  go_enter Try.func12, Try.ntmps12
  go_wp2
  refine start_ (n := 10) (S := fun w' => w'.cell? ⟨gb, 0, none⟩ = some vb ∧ w'.cell? ⟨gp, 0, none⟩ = some vp) (ds := [8, 9]) #[false, false, false, false, false, false, false, false, false, false] (by kernel_rfl) rfl rfl ⟨hcb, hcp⟩ (fun hHeld => ?_)
  refine pure_ (i := 1) (N := some 15) (v := ?_) (a' := ?_) #[false, true, false, false, false, false, false, false, false, false] rfl rfl (by kernel_rfl) (fun _ _ _ h => h) (Or.inl ⟨by rfl, ?_⟩) ?_ ?_
  rotate_left
  · intro w'
    go_simp
    with_reducible rfl
  rotate_left
  · simp only [Act.put, List.setIfInBounds_toArray, List.set_cons_zero, List.set_cons_succ, i64_w, i32_w]
    rfl
  refine pure_ (i := 5) (N := some 19) (v := ?_) (a' := ?_) #[false, true, false, false, false, true, false, false, false, false] rfl rfl (by kernel_rfl) (fun _ _ _ h => h) (Or.inl ⟨by rfl, ?_⟩) ?_ ?_
  rotate_left
  · intro w'
    go_simp
    with_reducible rfl
  rotate_left
  · simp only [Act.put, List.setIfInBounds_toArray, List.set_cons_zero, List.set_cons_succ, i64_w, i32_w]
    rfl
  refine take_ (i := 0) (N := some 14) (v := ?_) (a' := ?_) #[true, true, false, false, false, true, false, false, false, false] rfl rfl (by kernel_rfl) (fun _ _ _ h => h) (Or.inl ⟨by rfl, ?_⟩) hHeld ?_ ?_
  rotate_left
  · rintro w' ⟨s0, s1⟩
    go_simp
    with_reducible rfl
  rotate_left
  · simp only [Act.put, List.setIfInBounds_toArray, List.set_cons_zero, List.set_cons_succ, i64_w, i32_w]
    rfl
  refine take_ (i := 4) (N := some 18) (v := ?_) (a' := ?_) #[true, true, false, false, true, true, false, false, false, false] rfl rfl (by kernel_rfl) (fun _ _ _ h => h) (Or.inl ⟨by rfl, ?_⟩) hHeld ?_ ?_
  rotate_left
  · rintro w' ⟨s0, s1⟩
    go_simp
    with_reducible rfl
  rotate_left
  · simp only [Act.put, List.setIfInBounds_toArray, List.set_cons_zero, List.set_cons_succ, i64_w, i32_w]
    rfl
  refine join_ (σ := Nat × Nat × Value) 3 #[true, true, true, true, true, true, true, false, false, false] (fun s => [(16, .slice (some ⟨s.1, 0, none⟩) 1 1), (17, s.2.2), (20, .slice (some ⟨s.2.1, 0, none⟩) 1 1)]) (fun s w' => NJ w base X gb gp vb vp s.2.2 vp (bl ++ [bit]) pl w' ∧ w'.heap[s.2.1]? = some (.cells #[.int .i64 p] 3 (0, 0))) ?_ ?_
  rotate_left
  · intro hCont
    refine two_ (i := 2) (j := 6) (Ni := some 16) (Nj := some 20) #[true, true, true, false, true, true, false, false, false, false] #[true, true, false, false, true, true, true, false, false, false] rfl rfl rfl rfl (by kernel_rfl) (by decide) (by decide) (fun K hK => ?_) (fun K hK => ?_)
    · skip
      refine lit_step (cs := #[.bool bit]) (e := 4) (n := 1) (by rfl) rfl ?_ ?_
      · first | (go_simp; done) | (go_simp; rfl)
      intro kA wA ekA hA hbA
      have JA := J0.out.below hbA
      refine hK.out _ _ ⟨((blk_cell JA.hb 0).trans rfl), ((blk_cell JA.hp 0).trans rfl)⟩ (fun hHeld => ?_)
      clear hK K
      refine norm_ (a' := ?_) ?_ ?_
      rotate_left
      · show Act.put _ (some 16) _ = _
        simp only [Act.put, List.setIfInBounds_toArray, List.set_cons_zero, List.set_cons_succ, i64_w, i32_w]
        rfl
      refine two_ (i := 3) (j := 6) (Ni := some 17) (Nj := some 20) #[true, true, true, true, true, true, false, false, false, false] #[true, true, true, false, true, true, true, false, false, false] rfl rfl rfl rfl (by kernel_rfl) (by decide) (by decide) (fun K hK => ?_) (fun K hK => ?_)
      · skip
        refine Kd.R_append_rows_step Kd.bool (w0 := wA) (W := wA) base (by rfl) (.tmp 14) (.tmp 16) 37 4 (.bool false) 1 rfl Try.underlying37 infoB rfl (by decide) (by decide) vb bl [bit] (some ⟨kA, 0, none⟩) 1 1 (fun k => ¬ X k) (fun _ => False) rfl rfl JA.rb (one_at hA) (fun _ _ h => h) (fun _ h => h.elim) JA.fresh (Below.refl _ _) JA.bs (by have := HLB.out; omega) ?_
        intro v5 w5 ho5 hb5 hg5 ha5
        have J5 := JA.appB ho5 hg5
        refine hK.out _ _ ⟨((blk_cell J5.hb 0).trans rfl), ((blk_cell J5.hp 0).trans rfl)⟩ (fun hHeld => ?_)
        clear hK K
        refine norm_ (a' := ?_) ?_ ?_
        rotate_left
        · show Act.put _ (some 17) _ = _
          simp only [Act.put, List.setIfInBounds_toArray, List.set_cons_zero, List.set_cons_succ, i64_w, i32_w]
          rfl
        refine one_ (i := 6) (N := some 20) #[true, true, true, true, true, true, true, false, false, false] rfl rfl (by kernel_rfl) (by decide) (fun K hK => ?_)
        refine lit_step (cs := #[.int .i64 p]) (e := 3) (n := 1) (by rfl) rfl ?_ ?_
        · first | (go_simp; done) | (go_simp; rfl)
        intro kB wB ekB hB hbB
        have JB := J5.below hbB
        refine hK.out _ _ ⟨((blk_cell JB.hb 0).trans rfl), ((blk_cell JB.hp 0).trans rfl)⟩ (fun hHeld => ?_)
        clear hK K
        refine norm_ (a' := ?_) ?_ ?_
        rotate_left
        · show Act.put _ (some 20) _ = _
          simp only [Act.put, List.setIfInBounds_toArray, List.set_cons_zero, List.set_cons_succ, i64_w, i32_w]
          rfl
        exact norm_ (by simp only [putAll, Act.put, List.setIfInBounds_toArray, List.set_cons_zero, List.set_cons_succ]) (hCont (kA, kB, v5) _ ⟨JB, hB⟩)
      · skip
        refine lit_step (cs := #[.int .i64 p]) (e := 3) (n := 1) (by rfl) rfl ?_ ?_
        · first | (go_simp; done) | (go_simp; rfl)
        intro kB wB ekB hB hbB
        have JB := JA.below hbB
        have hA := blk_below hA hbB
        refine hK.out _ _ ⟨((blk_cell JB.hb 0).trans rfl), ((blk_cell JB.hp 0).trans rfl)⟩ (fun hHeld => ?_)
        clear hK K
        refine norm_ (a' := ?_) ?_ ?_
        rotate_left
        · show Act.put _ (some 20) _ = _
          simp only [Act.put, List.setIfInBounds_toArray, List.set_cons_zero, List.set_cons_succ, i64_w, i32_w]
          rfl
        refine one_ (i := 3) (N := some 17) #[true, true, true, true, true, true, true, false, false, false] rfl rfl (by kernel_rfl) (by decide) (fun K hK => ?_)
        refine Kd.R_append_rows_step Kd.bool (w0 := wB) (W := wB) base (by rfl) (.tmp 14) (.tmp 16) 37 4 (.bool false) 1 rfl Try.underlying37 infoB rfl (by decide) (by decide) vb bl [bit] (some ⟨kA, 0, none⟩) 1 1 (fun k => ¬ X k) (fun _ => False) rfl rfl JB.rb (one_at hA) (fun _ _ h => h) (fun _ h => h.elim) JB.fresh (Below.refl _ _) JB.bs (by have := HLB.out; omega) ?_
        intro v5 w5 ho5 hb5 hg5 ha5
        have J5 := JB.appB ho5 hg5
        have hB := blk_grown hB hg5 (Kd.R_ne JB.rb hB (by decide))
        refine hK.out _ _ ⟨((blk_cell J5.hb 0).trans rfl), ((blk_cell J5.hp 0).trans rfl)⟩ (fun hHeld => ?_)
        clear hK K
        refine norm_ (a' := ?_) ?_ ?_
        rotate_left
        · show Act.put _ (some 17) _ = _
          simp only [Act.put, List.setIfInBounds_toArray, List.set_cons_zero, List.set_cons_succ, i64_w, i32_w]
          rfl
        exact norm_ (by simp only [putAll, Act.put, List.setIfInBounds_toArray, List.set_cons_zero, List.set_cons_succ]) (hCont (kA, kB, v5) _ ⟨J5, hB⟩)
    · skip
      refine lit_step (cs := #[.int .i64 p]) (e := 3) (n := 1) (by rfl) rfl ?_ ?_
      · first | (go_simp; done) | (go_simp; rfl)
      intro kB wB ekB hB hbB
      have JB := J0.out.below hbB
      refine hK.out _ _ ⟨((blk_cell JB.hb 0).trans rfl), ((blk_cell JB.hp 0).trans rfl)⟩ (fun hHeld => ?_)
      clear hK K
      refine norm_ (a' := ?_) ?_ ?_
      rotate_left
      · show Act.put _ (some 20) _ = _
        simp only [Act.put, List.setIfInBounds_toArray, List.set_cons_zero, List.set_cons_succ, i64_w, i32_w]
        rfl
      refine one_ (i := 2) (N := some 16) #[true, true, true, false, true, true, true, false, false, false] rfl rfl (by kernel_rfl) (by decide) (fun K hK => ?_)
      refine lit_step (cs := #[.bool bit]) (e := 4) (n := 1) (by rfl) rfl ?_ ?_
      · first | (go_simp; done) | (go_simp; rfl)
      intro kA wA ekA hA hbA
      have JA := JB.below hbA
      have hB := blk_below hB hbA
      refine hK.out _ _ ⟨((blk_cell JA.hb 0).trans rfl), ((blk_cell JA.hp 0).trans rfl)⟩ (fun hHeld => ?_)
      clear hK K
      refine norm_ (a' := ?_) ?_ ?_
      rotate_left
      · show Act.put _ (some 16) _ = _
        simp only [Act.put, List.setIfInBounds_toArray, List.set_cons_zero, List.set_cons_succ, i64_w, i32_w]
        rfl
      refine one_ (i := 3) (N := some 17) #[true, true, true, true, true, true, true, false, false, false] rfl rfl (by kernel_rfl) (by decide) (fun K hK => ?_)
      refine Kd.R_append_rows_step Kd.bool (w0 := wA) (W := wA) base (by rfl) (.tmp 14) (.tmp 16) 37 4 (.bool false) 1 rfl Try.underlying37 infoB rfl (by decide) (by decide) vb bl [bit] (some ⟨kA, 0, none⟩) 1 1 (fun k => ¬ X k) (fun _ => False) rfl rfl JA.rb (one_at hA) (fun _ _ h => h) (fun _ h => h.elim) JA.fresh (Below.refl _ _) JA.bs (by have := HLB.out; omega) ?_
      intro v5 w5 ho5 hb5 hg5 ha5
      have J5 := JA.appB ho5 hg5
      have hB := blk_grown hB hg5 (Kd.R_ne JA.rb hB (by decide))
      refine hK.out _ _ ⟨((blk_cell J5.hb 0).trans rfl), ((blk_cell J5.hp 0).trans rfl)⟩ (fun hHeld => ?_)
      clear hK K
      refine norm_ (a' := ?_) ?_ ?_
      rotate_left
      · show Act.put _ (some 17) _ = _
        simp only [Act.put, List.setIfInBounds_toArray, List.set_cons_zero, List.set_cons_succ, i64_w, i32_w]
        rfl
      exact norm_ (by simp only [putAll, Act.put, List.setIfInBounds_toArray, List.set_cons_zero, List.set_cons_succ]) (hCont (kA, kB, v5) _ ⟨J5, hB⟩)
  rintro ⟨kA, kB, v5⟩ wJ ⟨J9, hB9⟩
  obtain ⟨n5, A5, c5, e5⟩ : ∃ n A c, v5 = .slice A n c := by
    obtain ⟨A, c, h⟩ := Kd.R_slice J9.rb
    exact ⟨_, A, c, h⟩
  subst e5
  have hHeld : wJ.cell? ⟨gb, 0, none⟩ = some vb ∧ wJ.cell? ⟨gp, 0, none⟩ = some vp := ⟨(blk_cell J9.hb 0).trans rfl, (blk_cell J9.hp 0).trans rfl⟩
  refine norm_ (a' := ?_) ?_ ?_
  rotate_left
  · simp only [putAll, Act.put, List.setIfInBounds_toArray, List.set_cons_zero, List.set_cons_succ]
    rfl
  refine one_ (i := 7) (N := some 21) #[true, true, true, true, true, true, true, true, false, false] rfl rfl (by kernel_rfl) (by decide) (fun K hK => ?_)
  refine Kd.R_append_rows_step (Kd.int .i64) (w0 := wJ) (W := wJ) base (by rfl) (.tmp 18) (.tmp 20) 33 3 (.int .i64 0) 8 rfl Try.underlying33 info3 rfl (by decide) (by decide) vp pl [p] (some ⟨kB, 0, none⟩) 1 1 (fun k => ¬ X k) (fun _ => False) rfl rfl J9.rp (one_at hB9) (fun _ _ h => h) (fun _ h => h.elim) J9.fresh (Below.refl _ _) J9.bs (by have := HLP.out; omega) ?_
  intro v7 w7 ho7 hb7 hg7 ha7
  obtain ⟨n7, A7, c7, e7⟩ : ∃ n A c, v7 = .slice A n c := by
    obtain ⟨A, c, h⟩ := Kd.R_slice ho7
    exact ⟨_, A, c, h⟩
  subst e7
  have J7 := J9.appP ho7 hg7
  refine hK.out _ _ ⟨((blk_cell J7.hb 0).trans rfl), ((blk_cell J7.hp 0).trans rfl)⟩ (fun hHeld => ?_)
  clear hK K
  refine norm_ (a' := ?_) ?_ ?_
  rotate_left
  · show Act.put _ (some 21) _ = _
    simp only [Act.put, List.setIfInBounds_toArray, List.set_cons_zero, List.set_cons_succ, i64_w, i32_w]
    rfl
  refine last_ (i := 8) (N := none) #[true, true, true, true, true, true, true, true, true, false] rfl rfl (by kernel_rfl) (by decide) (fun K hK => ?_)
  have hc8 := (blk_cell J7.hb 0).trans (rfl : _ = some vb)
  have hf8 := blk_frozen J7.hb 0
  refine skip_ (w1 := ?_) (by rfl) rfl ?_ ?_
  rotate_left
  · go_simp
    rfl
  have J8 := J7.setB HGB.out (.slice A5 n5 c5)
  refine hK.out _ _ ?_
  clear hK K
  refine last_ (i := 9) (N := none) #[true, true, true, true, true, true, true, true, true, true] rfl rfl (by kernel_rfl) (by decide) (fun K hK => ?_)
  have hc9 := (blk_cell J8.hp 0).trans (rfl : _ = some vp)
  have hf9 := blk_frozen J8.hp 0
  refine skip_ (w1 := ?_) (by rfl) rfl ?_ ?_
  rotate_left
  · go_simp
    rfl
  refine hK.out _ _ ?_
  clear hK K
  refine done_ (by kernel_rfl) ?_
  have J10 := J8.setP HGP.out (.slice A7 n7 c7)
  clear hcx hcb hcp hc8 hf8 hc9 hf9 hHeld
  go_wp2
  go_ret
  exact ⟨rfl, ⟨J10.kp.at_ HGX.out (fun e => e.2 HX.out), HX.out, HGB.out, HGP.out, _, _, J10.hb, J10.hp, J10.rb, J10.rp, Kp.refl _ _, J10.fx, J10.bs⟩, J10.kp⟩
set_option maxHeartbeats 4000000 in
set_option maxRecDepth 100000 in
theorem tellD_calls (p : Nat) (k : Int) (gv g : Nat) (d : Ds) (w : World) (hE : DcS gv g d w) (hp1 : 1 ≤ p) (hp : p ≤ 2047) :
    Calls Try.prog 18 #[.int .i64 (p : Int), .int .i64 k, .pointer (some ⟨gv, 0, none⟩)] w fun e w' => e = .returned (.bool (dB d p)) ∧ DcS gv g (dN d p) w' ∧ Kp (fun i => i = g) w w' := by
  have HE := Aside0.mk hE
  have HP := Aside0.mk (And.intro hp1 hp)
  have hc := (blk_cell hE.1 0).trans (rfl : _ = some (Value.pointer (some ⟨g, 0, none⟩)))
  clear hE hp1 hp
  go_enter Try.func18, Try.ntmps18
  go_wp2_with (first
    | (go_at_call 19; (with_reducible refine (DcS.bit HE.out p HP.out.1 HP.out.2).mono ?_); rintro e w1 ⟨rfl, hD, hK⟩; have D1 := Aside0.mk hD; have K1 := Aside0.mk hK; clear hD hK))
  go_ret
  exact ⟨rfl, D1.out, K1.out⟩
/-! ### The rows -/
def slv : Option Nat → Value
  | none => .slice none 0 0
  | some g => .slice (some ⟨g, 0, none⟩) 256 256
def mcells (gs : List (Option Nat)) (last : Nat) : Array Value := (gs.map slv ++ [Value.int .u8 (last : Int)]).toArray
def RowOk (W : World) (o : Option Nat) (ch : List Int) : Prop := match o with
  | none => ch = List.replicate 256 1024
  | some g => Blk W g .i64 3 ch
/-- A model: its own block, the rows that are made, and the chances of all rows. -/
structure Mdl (W : World) (gm : Nat) (gs : List (Option Nat)) (last : Nat) (CH : List (List Int)) : Prop where
  own : W.heap[gm]? = some (.cells (mcells gs last) 36 (0, 0))
  lg : gs.length = 256
  lc : CH.length = 256
  ll : last < 256
  rows : ∀ c, c < 256 → RowOk W (gs.getD c none) (CH.getD c [])
  inj : ∀ c c', c < 256 → c' < 256 → gs.getD c none = gs.getD c' none → gs.getD c none ≠ none → c = c'
section
variable {W W1 : World} {gm last : Nat} {gs : List (Option Nat)} {CH : List (List Int)}
theorem Mdl.cellRow (h : Mdl W gm gs last CH) {c : Nat} (hc : c < 256) : W.cell? ⟨gm, c, none⟩ = some (slv (gs.getD c none)) := by
  refine (blk_cell h.own c).trans ?_
  have hl := h.lg
  simp [mcells, List.getElem?_append, hl, hc, List.getD_eq_getElem?_getD]
theorem Mdl.cellLast (h : Mdl W gm gs last CH) : W.cell? ⟨gm, 256, none⟩ = some (.int .u8 (last : Int)) := by
  refine (blk_cell h.own 256).trans ?_
  have hl := h.lg
  simp [mcells, List.getElem?_append, hl]
theorem Mdl.free (h : Mdl W gm gs last CH) (c : Nat) : W.frozen? ⟨gm, c, none⟩ = false := blk_frozen h.own c
theorem Mdl.move (h : Mdl W gm gs last CH) (hm : W1.heap[gm]? = W.heap[gm]?) (hr : ∀ g, some g ∈ gs → W1.heap[g]? = W.heap[g]?) : Mdl W1 gm gs last CH := by
  refine ⟨hm.trans h.own, h.lg, h.lc, h.ll, fun c hc => ?_, h.inj⟩
  have h1 := h.rows c hc
  cases hg : gs.getD c none with
  | none => rw [hg] at h1; exact h1
  | some g =>
    rw [hg] at h1
    have hmem : some g ∈ gs := by
      rw [List.getD_eq_getElem?_getD, List.getElem?_eq_getElem (by rw [h.lg]; exact hc)] at hg
      simp at hg
      rw [← hg]
      exact List.getElem_mem _
    exact (hr g hmem).trans h1
theorem Mdl.rowMem (h : Mdl W gm gs last CH) {g : Nat} (hg : some g ∈ gs) : ∃ c, c < 256 ∧ gs.getD c none = some g ∧ Blk W g .i64 3 (CH.getD c []) := by
  obtain ⟨c, hc, e⟩ := List.getElem_of_mem hg
  have hc' : c < 256 := by rw [← h.lg]; exact hc
  have e2 : gs.getD c none = some g := by rw [List.getD_eq_getElem?_getD, List.getElem?_eq_getElem hc]; simp [e]
  refine ⟨c, hc', e2, ?_⟩
  have h1 := h.rows c hc'
  rw [e2] at h1
  exact h1
theorem Mdl.rowLt (h : Mdl W gm gs last CH) {g : Nat} (hg : some g ∈ gs) : g < W.heap.size := by
  obtain ⟨_, _, _, hb⟩ := h.rowMem hg
  exact hb.lt
theorem Mdl.rowNe (h : Mdl W gm gs last CH) {g : Nat} (hg : some g ∈ gs) : g ≠ gm := by
  obtain ⟨_, _, _, hb⟩ := h.rowMem hg
  exact blk_ne hb h.own (by decide)
theorem Mdl.lt (h : Mdl W gm gs last CH) : gm < W.heap.size := blk_lt h.own
theorem Mdl.below (h : Mdl W gm gs last CH) (b : Below W.heap.size W W1) : Mdl W1 gm gs last CH := h.move (b.block gm h.lt) (fun g hg => b.block g (h.rowLt hg))
theorem Mdl.kp {S : Nat → Prop} (h : Mdl W gm gs last CH) (k : Kp S W W1) (h1 : ¬ S gm) (h2 : ∀ g, some g ∈ gs → ¬ S g) : Mdl W1 gm gs last CH :=
  h.move (k.2.2.2.2 gm h.lt h1) (fun g hg => k.2.2.2.2 g (h.rowLt hg) (h2 g hg))
/-- The last byte is another one. -/
theorem Mdl.setLast (h : Mdl W gm gs last CH) (b : Nat) (hb : b < 256) : Mdl (W.setCell ⟨gm, 256, none⟩ (.int .u8 (b : Int))) gm gs b CH := by
  refine ⟨blk_put h.own 256 _ ?_, h.lg, h.lc, hb, fun c hc => ?_, h.inj⟩
  · have hl := h.lg
    apply Array.ext'
    simp [mcells, List.set_append, hl]
  · have h1 := h.rows c hc
    cases hg : gs.getD c none with
    | none => rw [hg] at h1; exact h1
    | some g =>
      rw [hg] at h1
      have h2 : Blk W g .i64 3 (CH.getD c []) := h1
      exact h2.far (p := ⟨gm, 256, none⟩) (blk_ne h2 h.own (by decide)) _
/-- A row is made. -/
theorem Mdl.make (h : Mdl W gm gs last CH) {g : Nat} (hg : Blk W g .i64 3 (List.replicate 256 1024)) (hn : gs.getD last none = none) (hf : some g ∉ gs) : Mdl (W.setCell ⟨gm, last, none⟩ (slv (some g))) gm (gs.set last (some g)) last CH := by
  have hl := h.lg
  have hll := h.ll
  have key : ∀ c, c < 256 → (gs.set last (some g)).getD c none = if c = last then some g else gs.getD c none := by
    intro c hc
    rw [List.getD_eq_getElem?_getD, List.getElem?_set]
    by_cases e : last = c
    · rw [if_pos e, if_pos e.symm, if_pos (by omega)]; rfl
    · rw [if_neg e, if_neg (fun x => e x.symm), ← List.getD_eq_getElem?_getD]
  refine ⟨blk_put h.own last _ ?_, by rw [List.length_set]; exact hl, h.lc, hll, fun c hc => ?_, fun c c' hc hc' e hne => ?_⟩
  · apply Array.ext'
    simp [mcells, List.set_append, hl, hll, List.map_set]
  · rw [key c hc]
    by_cases e : c = last
    · rw [if_pos e]
      have h1 := h.rows c hc
      rw [e, hn] at h1
      have h2 : CH.getD last [] = List.replicate 256 1024 := h1
      rw [e, h2]
      exact hg.far (p := ⟨gm, last, none⟩) (blk_ne hg h.own (by decide)) _
    · rw [if_neg e]
      have h1 := h.rows c hc
      cases hgg : gs.getD c none with
      | none => rw [hgg] at h1; exact h1
      | some q =>
        rw [hgg] at h1
        have h2 : Blk W q .i64 3 (CH.getD c []) := h1
        exact h2.far (p := ⟨gm, last, none⟩) (blk_ne h2 h.own (by decide)) _
  · rw [key c hc] at e hne
    rw [key c' hc'] at e
    have mem : ∀ c, c < 256 → gs.getD c none = some g → False := fun c hc e => hf (by
      rw [List.getD_eq_getElem?_getD, List.getElem?_eq_getElem (by omega)] at e
      simp at e
      rw [← e]; exact List.getElem_mem _)
    by_cases e1 : c = last
    · by_cases e2 : c' = last
      · omega
      · rw [if_pos e1, if_neg e2] at e
        exact (mem c' hc' e.symm).elim
    · rw [if_neg e1] at e hne
      by_cases e2 : c' = last
      · rw [if_pos e2] at e
        exact (mem c hc e).elim
      · rw [if_neg e2] at e
        exact h.inj c c' hc hc' e hne
/-- A chance in a row that is made. -/
theorem Mdl.put (h : Mdl W gm gs last CH) {c g : Nat} (hc : c < 256) (hg : gs.getD c none = some g) (i : Nat) (x : Int) : Mdl (W.setCell ⟨g, i, none⟩ (.int .i64 x)) gm gs last (CH.set c ((CH.getD c []).set i x)) := by
  have h1 := h.rows c hc
  rw [hg] at h1
  have h2 : Blk W g .i64 3 (CH.getD c []) := h1
  refine ⟨blk_far (p := ⟨g, i, none⟩) h.own (blk_ne h.own h2 (by decide)) _, h.lg, by rw [List.length_set]; exact h.lc, h.ll, fun c' hc' => ?_, h.inj⟩
  have key : (CH.set c ((CH.getD c []).set i x)).getD c' [] = if c' = c then (CH.getD c []).set i x else CH.getD c' [] := by
    rw [List.getD_eq_getElem?_getD (l := CH.set c _), List.getElem?_set]
    by_cases e : c = c'
    · rw [if_pos e, if_pos e.symm, if_pos (by rw [h.lc]; exact hc)]; rfl
    · rw [if_neg e, if_neg (fun y => e y.symm), ← List.getD_eq_getElem?_getD]
  rw [key]
  by_cases e : c' = c
  · rw [if_pos e, e, hg]
    exact h2.put i x
  · rw [if_neg e]
    have h3 := h.rows c' hc'
    cases hgg : gs.getD c' none with
    | none => rw [hgg] at h3; exact h3
    | some q =>
      rw [hgg] at h3
      have h4 : Blk W q .i64 3 (CH.getD c' []) := h3
      exact h4.far (p := ⟨g, i, none⟩) (fun e2 => e (h.inj c' c hc' hc (by rw [hgg, hg, e2]) (by rw [hgg]; simp))) _
end
end Go.Proofs.Ytldhkhppefnmnaa.Hd
/- markov's row, walked by hand. -/
namespace Go.Proofs.Ytldhkhppefnmnaa.Hd
open Go Go.RowKit Go.Proofs.YtldhkhppefnmnaaW.PrintWords Go.Proofs.YtldhkhppefnmnaaW.PrintLast Go.Proofs.YtldhkhppefnmnaaW.PrintMore Go.Proofs.Ytldhkhppefnmnaa.Hw Go.Proofs.Ytldhkhppefnmnaa.Com Go.Proofs.Ytldhkhppefnmnaa.Rn Go.Proofs.Ytldhkhppefnmnaa.P
attribute [local go_sem] max2_int min2_int max_two min_two max_three min_three max_four min_four
set_option maxHeartbeats 8000000 in
set_option maxRecDepth 100000 in
theorem row_made (gm last g : Nat) (gs : List (Option Nat)) (CH : List (List Int)) (w : World) (hM : Mdl w gm gs last CH) (hg : gs.getD last none = some g) :
    Calls Try.prog 22 #[.pointer (some ⟨gm, 0, none⟩)] w fun e w' => e = .returned (.slice (some ⟨g, 0, none⟩) 256 256) ∧ Drawn0 w w' := by
  have qT : ∀ (w : World) (a : Option Addr) (n c n' c' : Nat), (binOp .eql 33 (.slice a n c) (.slice none n' c')).run Try.prog w = .ok (.bool a.isNone) w := fun w a n c n' c' => Go.Lib.run_eql_slice_nil w _ _ a n c n' c' Try.underlying33
  have h1 := hM.cellLast
  have h2 : w.cell? ⟨gm, last, none⟩ = some (.slice (some ⟨g, 0, none⟩) 256 256) := by
    have h := hM.cellRow hM.ll
    rw [hg] at h
    exact h
  have q1 : (0 ≤ (last : Int)) = True := eq_true (by omega)
  have q2 : ((last : Int) < 256) = True := eq_true (by have := hM.ll; omega)
  have q3 : (last < 256) = True := eq_true hM.ll
  clear hM hg
  go_enter Try.func22, Try.ntmps22
  go_wp2
  go_quiet (fail)
  go_wp2
  go_quiet (fail)
  go_wp2
  go_ret
  exact ⟨rfl, by repeat (first | exact Drawn0.refl _ | apply Drawn0.step)⟩
set_option maxHeartbeats 8000000 in
set_option maxRecDepth 100000 in
theorem row_new (gm last : Nat) (gs : List (Option Nat)) (CH : List (List Int)) (w : World) (hM : Mdl w gm gs last CH) (hg : gs.getD last none = none) :
    Calls Try.prog 22 #[.pointer (some ⟨gm, 0, none⟩)] w fun e w' => ∃ g : Nat, e = .returned (.slice (some ⟨g, 0, none⟩) 256 256) ∧ w.heap.size ≤ g ∧ Mdl w' gm (gs.set last (some g)) last CH ∧ Kp (fun i => i = gm) w w' := by
  have qT : ∀ (w : World) (a : Option Addr) (n c n' c' : Nat), (binOp .eql 33 (.slice a n c) (.slice none n' c')).run Try.prog w = .ok (.bool a.isNone) w := fun w a n c n' c' => Go.Lib.run_eql_slice_nil w _ _ a n c n' c' Try.underlying33
  have h1 := hM.cellLast
  have h2 : w.cell? ⟨gm, last, none⟩ = some (.slice none 0 0) := by
    have h := hM.cellRow hM.ll
    rw [hg] at h
    exact h
  have q1 : (0 ≤ (last : Int)) = True := eq_true (by omega)
  have q2 : ((last : Int) < 256) = True := eq_true (by have := hM.ll; omega)
  have q3 : (last < 256) = True := eq_true hM.ll
  have M0 := Aside0.mk hM
  have HG := Aside0.mk hg
  clear hM hg
  go_enter Try.func22, Try.ntmps22
  go_wp2
  go_quiet (fail)
  obtain ⟨w1, hw1⟩ : ∃ w1, w.drewN nq = w1 := ⟨_, rfl⟩
  have M1 := Aside0.mk (show Mdl (w.drewN nq) gm gs last CH from M0.out.below (pw_below_drewN (Below.refl _ _) _))
  have K1 := Aside0.mk (show Kp (fun i => i = gm) w (w.drewN nq) from Kp.refl _ _)
  rw [hw1] at M1 K1
  rw [hw1]
  clear hw1 h1 h2
  go_wp2_with (first
    | ((with_reducible refine gate_dst (N := 15) rfl ?_); refine make_blk rfl rfl 256 rfl rfl Try.underlying33 .i64 info3 (by decide) (by decide) ?_; intro g w2 G2 B2 C2; have M2 := Aside0.mk (M1.out.below C2.out); have K2 := Aside0.mk (K1.out.trans (Kp.below C2.out)); have GG := Aside0.mk (Nat.le_trans K1.out.size G2.out); clear C2 G2))
  go_loopg [18] 256 (fun q v18 w' => ∃ (L : Int) (m : Nat), v18 = .int .i64 L ∧ Aside0 (L = (m : Int) ∧ m + q = 256) ∧ Aside0 (Blk w' g .i64 3 (List.replicate m 1024 ++ List.replicate q 0)) ∧ Aside0 (Mdl w' gm gs last CH) ∧ Aside0 (Kp (fun i => i = gm) w w'))
  case atStart => exact ⟨0, 0, rfl, ⟨rfl, rfl⟩, B2, M2, K2⟩
  case round =>
    clear M1 K1 M2 K2 B2
    obtain ⟨L, m, rfl, HA, B3, M3, K3⟩ := hrel
    have NG := Aside0.mk (show g ≠ gm from blk_ne B3.out M3.out.own (by decide))
    cases gk with
    | zero =>
      have t1 : decide (L < 256) = false := decide_eq_false (by have := HA.out; omega)
      have em : m = 256 := by have := HA.out; omega
      subst em
      have hB := B3.out
      rw [List.replicate_zero, List.append_nil] at hB
      have B4 := Aside0.mk hB
      have h1 := M3.out.cellLast
      clear hB
      go_wp2
      go_still_tail 9, (by kernel_rfl)
      change wpList _ _ _ _ _ wr.drew
      have M4 := Aside0.mk (show Mdl wr.drew gm gs last CH from M3.out.below (below_drew (Below.refl _ _)))
      have K4 := Aside0.mk (K3.out.drew)
      have B5 := Aside0.mk (show Blk wr.drew g .i64 3 (List.replicate 256 1024) from B4.out)
      have hf := M4.out.free last
      have h2 : wr.drew.cell? ⟨gm, last, none⟩ = some (.slice none 0 0) := by
        have h := M4.out.cellRow M4.out.ll
        rw [HG.out] at h
        exact h
      have hnm : some g ∉ gs := fun e => by have := M0.out.rowLt e; have := GG.out; omega
      have M5 := Aside0.mk (M4.out.make B5.out HG.out hnm)
      have K5 := Aside0.mk (K4.out.set (p := ⟨gm, last, none⟩) rfl (slv (some g)))
      have M6 := Aside0.mk (show Mdl (wr.setCell ⟨gm, last, none⟩ (.slice (some ⟨g, 0, none⟩) 256 256)).drew gm (gs.set last (some g)) last CH from M5.out)
      have K6 := Aside0.mk (show Kp (fun i => i = gm) w (wr.setCell ⟨gm, last, none⟩ (.slice (some ⟨g, 0, none⟩) 256 256)).drew from K5.out)
      clear h1 B3 M3 K3 hnm M5 K5
      go_wp2
      obtain ⟨w9, hw9⟩ : ∃ w9, (wr.setCell ⟨gm, last, none⟩ (.slice (some ⟨g, 0, none⟩) 256 256)).drew = w9 := ⟨_, rfl⟩
      rw [hw9] at M6 K6
      rw [hw9]
      clear hw9
      have M5 := M6
      have K5 := K6
      clear M6 K6
      have h1 := M5.out.cellLast
      have h3 := M5.out.cellRow M5.out.ll
      have h4 : (gs.set last (some g)).getD last none = some g := by
        rw [List.getD_eq_getElem?_getD, List.getElem?_set, if_pos rfl, if_pos (by rw [M4.out.lg]; exact M4.out.ll)]; rfl
      rw [h4] at h3
      simp only [slv] at h1 h3
      clear h4 h2 hf
      go_quiet (fail)
      go_wp2
      go_ret
      exact ⟨g, rfl, GG.out, M5.out.below (pw_below_drewN (Below.refl _ _) _), K5.out⟩
    | succ q =>
      have t1 : decide (L < 256) = true := decide_eq_true (by have := HA.out; omega)
      have p1 : (0 ≤ L) = True := eq_true (by have := HA.out; omega)
      have p2 : (L < 256) = True := eq_true (by have := HA.out; omega)
      go_wp2_with (first
        | (go_at_call 36; (with_reducible refine (prob_Start.calls 1024 _ rfl).mono ?_); rintro e w4 ⟨rfl, hd⟩; have B4 := Aside0.mk (B3.out.below hd.below); have M4 := Aside0.mk (M3.out.below hd.below); have K4 := Aside0.mk (K3.out.trans (Kp.below hd.below)); have hc := B4.out.cell L.toNat (by have := HA.out; simp; omega); have hf := B4.out.free L.toNat; clear hd))
      have B5 := Aside0.mk (B4.out.put L.toNat 1024)
      have M5 := Aside0.mk (M4.out.move (W1 := w4.setCell ⟨g, L.toNat, none⟩ (.int .i64 1024)) (Below.heap_setCell _ _ _ _ NG.out.symm) (fun q hq => Below.heap_setCell _ _ _ _ (fun e => by have h1 := M0.out.rowLt hq; have h2 := GG.out; have h3 : q = g := e; omega)))
      go_roundg q
      case measure => omega
      case rel =>
        refine ⟨wrap64 (L + 1), m + 1, rfl, ⟨?_, by have := HA.out; omega⟩, ⟨?_⟩, M5, ⟨?_⟩⟩
        · have := HA.out; rw [w64 (by omega) (by omega)]; omega
        · have e : (List.replicate m (1024 : Int) ++ List.replicate (q + 1) 0).set L.toNat 1024 = List.replicate (m + 1) 1024 ++ List.replicate q 0 := by
            have eL : L.toNat = m := by have := HA.out; omega
            rw [eL, List.replicate_succ, List.set_append_right _ _ (by simp), List.length_replicate, Nat.sub_self, List.replicate_succ']
            simp [List.append_assoc]
          have h := B5.out
          rw [e] at h
          exact h
        · have h := K4.out
          exact ⟨h.1, h.2.1, h.2.2.1, by simpa using h.2.2.2.1, fun i hi hn => (Below.heap_setCell _ _ _ _ (fun e => by have h2 := GG.out; have h3 : i = g := e; omega)).trans (h.2.2.2.2 i hi hn)⟩
/-- The row behind the byte ahead: made, if it is not. -/
theorem row_calls (gm last : Nat) (gs : List (Option Nat)) (CH : List (List Int)) (w : World) (hM : Mdl w gm gs last CH) :
    Calls Try.prog 22 #[.pointer (some ⟨gm, 0, none⟩)] w fun e w' => ∃ (g : Nat) (gs' : List (Option Nat)), e = .returned (.slice (some ⟨g, 0, none⟩) 256 256) ∧ gs'.getD last none = some g ∧ (∀ k, some k ∈ gs' → some k ∈ gs ∨ w.heap.size ≤ k) ∧ (∀ k, some k ∈ gs → some k ∈ gs') ∧ Mdl w' gm gs' last CH ∧ Kp (fun i => i = gm) w w' := by
  cases hg : gs.getD last none with
  | some g =>
    refine (row_made gm last g gs CH w hM hg).mono ?_
    rintro e w' ⟨rfl, hd⟩
    exact ⟨g, gs, rfl, hg, fun k h => Or.inl h, fun k h => h, hM.below hd.below, Kp.below hd.below⟩
  | none =>
    refine (row_new gm last gs CH w hM hg).mono ?_
    rintro e w' ⟨g, rfl, hge, hM', hK⟩
    have hll : last < gs.length := by rw [hM.lg]; exact hM.ll
    refine ⟨g, gs.set last (some g), rfl, ?_, fun k h => ?_, fun k h => ?_, hM', hK⟩
    · rw [List.getD_eq_getElem?_getD, List.getElem?_set, if_pos rfl, if_pos hll]; rfl
    · rcases List.mem_or_eq_of_mem_set h with h | h
      · exact Or.inl h
      · injection h with h; subst h; exact Or.inr hge
    · obtain ⟨c, hc, e⟩ := List.getElem_of_mem h
      have hne : last ≠ c := by
        rintro rfl
        rw [List.getD_eq_getElem?_getD, List.getElem?_eq_getElem hc] at hg
        simp at hg
        rw [hg] at e
        cases e
      have hc2 : c < (gs.set last (some g)).length := by rw [List.length_set]; exact hc
      have e2 : (gs.set last (some g))[c] = gs[c] := List.getElem_set_ne hne hc2
      rw [← e, ← e2]
      exact List.getElem_mem _
end Go.Proofs.Ytldhkhppefnmnaa.Hd
/- Chances that adapt, along a number's bits. -/
namespace Go.Proofs.Ytldhkhppefnmnaa.Hd
open Go Go.RowKit Go.Proofs.YtldhkhppefnmnaaW.PrintWords Go.Proofs.YtldhkhppefnmnaaW.PrintLast Go.Proofs.YtldhkhppefnmnaaW.PrintMore Go.Proofs.Ytldhkhppefnmnaa.Hw Go.Proofs.Ytldhkhppefnmnaa.Com Go.Proofs.Ytldhkhppefnmnaa.Rn Go.Proofs.Ytldhkhppefnmnaa.P
theorem drawn_heap {w w1 : World} (h : Drawn0 w w1) (i : Nat) : w1.heap[i]? = w.heap[i]? := by
  obtain ⟨n, rfl⟩ := h.out
  rfl
theorem drawn_size {w w1 : World} (h : Drawn0 w w1) : w1.heap.size = w.heap.size := by
  obtain ⟨n, rfl⟩ := h.out
  rfl
/-- A chance behind a bit. -/
def upd (p : Int) (b : Bool) : Int := if b then p - p / 32 else p + (2048 - p) / 32
theorem upd_f (p : Int) (b : Bool) (h1 : 1 ≤ p) (h2 : p ≤ 2047) : prob_Update.f 1 p b = some (upd p b, 0) := by
  unfold prob_Update.f
  rw [if_neg (by omega), decide_eq_false (by omega)]
  simp only [prob_Update.j0]
  cases b with
  | false => simp [upd]; rw [w64 (x := 2048 - p) (by omega) (by omega), w64 (by omega) (by omega)]
  | true => simp [upd]; rw [w64 (by omega) (by omega)]
theorem upd_in {p : Int} {b : Bool} (h1 : 31 ≤ p) (h2 : p ≤ 2017) : 31 ≤ upd p b ∧ upd p b ≤ 2017 := by
  unfold upd
  cases b
  · simp; omega
  · simp; omega
/-- Along so many bits: the row of bits, what tells them, the chances. -/
def wk {σ : Type} (tell : σ → Int → Nat → Bool × σ) : Nat → σ → Nat → List Int → Nat × σ × List Int
  | 0, s, A, ch => (A, s, ch)
  | k + 1, s, A, ch => wk tell k (tell s (ch.getD A 0) k).2 (2 * A + if (tell s (ch.getD A 0) k).1 then 1 else 0) (ch.set A (upd (ch.getD A 0) (tell s (ch.getD A 0) k).1))
theorem or_one (A : Nat) (h : A ≤ 1024) : Go.bits .or .i64 ((A : Int) * 2) 1 = ((2 * A + 1 : Nat) : Int) := by
  have e : ((A : Int) * 2) = ((A * 2 : Nat) : Int) := by omega
  rw [e, show (1 : Int) = ((1 : Nat) : Int) from rfl, (bits_i64 (A * 2) 1 (by omega) (by omega)).2, or_join (A * 2) 1 1 (by omega) (by omega)]
  omega
def FineC (ch : List Int) : Prop := ∀ x ∈ ch, 31 ≤ x ∧ x ≤ 2017
theorem FineC.set {ch : List Int} (h : FineC ch) (i : Nat) {x : Int} (hx : 31 ≤ x ∧ x ≤ 2017) : FineC (ch.set i x) := by
  intro y hy
  rcases List.mem_or_eq_of_mem_set hy with h1 | h1
  · exact h y h1
  · rw [h1]; exact hx
theorem FineC.at_ {ch : List Int} (h : FineC ch) {i : Nat} (hi : i < ch.length) : 31 ≤ ch.getD i 0 ∧ ch.getD i 0 ≤ 2017 := by
  rw [List.getD_eq_getElem?_getD, List.getElem?_eq_getElem hi]
  exact h _ (List.getElem_mem hi)
/-- The bits of a number, told to two rows. -/
def tellE (x : Nat) (s : List Bool × List Int) (p : Int) (k : Nat) : Bool × (List Bool × List Int) := (bitOf x k, (s.1 ++ [bitOf x k], s.2 ++ [p]))
theorem wk_len (x k : Nat) : ∀ (s : List Bool × List Int) (A : Nat) (ch : List Int), (wk (tellE x) k s A ch).2.1.1.length = s.1.length + k ∧ (wk (tellE x) k s A ch).2.1.2.length = s.2.length + k := by
  induction k with
  | zero => intro s A ch; exact ⟨rfl, rfl⟩
  | succ k ih =>
    intro s A ch
    rw [wk]
    have h := ih (tellE x s (ch.getD A 0) k).2 (2 * A + if (tellE x s (ch.getD A 0) k).1 then 1 else 0) (ch.set A (upd (ch.getD A 0) (tellE x s (ch.getD A 0) k).1))
    rw [h.1, h.2]
    simp [tellE]; omega
/-- The next bit of a decoder. -/
def tellD (d : Ds) (p : Int) (_ : Nat) : Bool × Ds := (dB d p.toNat, dN d p.toNat)
end Go.Proofs.Ytldhkhppefnmnaa.Hd
/- markov's walk along a byte's bits, by whatever tells them; by hand. -/
namespace Go.Proofs.Ytldhkhppefnmnaa.Hd
open Go Go.RowKit Go.Proofs.YtldhkhppefnmnaaW.PrintWords Go.Proofs.YtldhkhppefnmnaaW.PrintLast Go.Proofs.YtldhkhppefnmnaaW.PrintMore Go.Proofs.Ytldhkhppefnmnaa.Hw Go.Proofs.Ytldhkhppefnmnaa.Com Go.Proofs.Ytldhkhppefnmnaa.Rn Go.Proofs.Ytldhkhppefnmnaa.P
attribute [local go_sem] max2_int min2_int max_two min_two max_three min_three max_four min_four
/-- All rows are rows of chances. -/
def FineR (CH : List (List Int)) : Prop := ∀ c, c < 256 → (CH.getD c []).length = 256 ∧ FineC (CH.getD c [])
theorem FineR.set {CH : List (List Int)} (h : FineR CH) (hl : CH.length = 256) {c : Nat} (hc : c < 256) {ch : List Int} (h1 : ch.length = 256) (h2 : FineC ch) : FineR (CH.set c ch) := by
  intro c' hc'
  have key : (CH.set c ch).getD c' [] = if c' = c then ch else CH.getD c' [] := by
    rw [List.getD_eq_getElem?_getD (l := CH.set c _), List.getElem?_set]
    by_cases e : c = c'
    · rw [if_pos e, if_pos e.symm, if_pos (by omega)]; rfl
    · rw [if_neg e, if_neg (fun y => e y.symm), ← List.getD_eq_getElem?_getD]
  rw [key]
  by_cases e : c' = c
  · rw [if_pos e]; exact ⟨h1, h2⟩
  · rw [if_neg e]; exact h c' hc'
theorem set_set_same (CH : List (List Int)) (c : Nat) (a b : List Int) : (CH.set c a).set c b = CH.set c b := by simp
theorem getD_set_same (CH : List (List Int)) {c : Nat} (hc : c < CH.length) (a : List Int) : (CH.set c a).getD c [] = a := by
  rw [List.getD_eq_getElem?_getD, List.getElem?_set, if_pos rfl, if_pos hc]; rfl
set_option maxHeartbeats 8000000 in
set_option maxRecDepth 100000 in
theorem mwalk_calls {σ : Type} (tell : σ → Int → Nat → Bool × σ) (Inv : List (Option Nat) → Nat → World → σ → Prop) (S : List (Option Nat) → Nat → Prop) (gm last f : Nat) (gs : List (Option Nat)) (CH : List (List Int)) (cap : Array Value) {fn : Func}
    (hf : Try.prog.funcs[f]? = some fn) (hname : (fn.name == "runtime.NumGoroutine") = false) (hb : fn.body.isSome = true)
    (s : σ) (w : World) (hM : Mdl w gm gs last CH) (hF : FineR CH)
    (hS : ∀ gs', ¬ S gs' gm ∧ ∀ g, some g ∈ gs' → ¬ S gs' g)
    (hcall : ∀ gs' s (p : Int) (k : Nat) w, Inv gs' (k + 1) w s → 31 ≤ p → p ≤ 2017 → k ≤ 7 → Calls Try.prog f (#[.int .i64 p, .int .i64 (k : Int)] ++ cap) w fun e w' => e = .returned (.bool (tell s p k).1) ∧ Inv gs' k w' (tell s p k).2 ∧ Kp (S gs') w w')
    (hfr : ∀ gs' q s w w' (j : Nat), Inv gs' q w s → (j = gm ∨ some j ∈ gs') → (∀ i, i ≠ j → w'.heap[i]? = w.heap[i]?) → w'.heap.size = w.heap.size → Inv gs' q w' s)
    (hrow : ∀ gs' w', (∀ k, some k ∈ gs' → some k ∈ gs ∨ w.heap.size ≤ k) → (∀ k, some k ∈ gs → some k ∈ gs') → Mdl w' gm gs' last CH → Kp (fun i => i = gm) w w' → Inv gs' 8 w' s) :
    Calls Try.prog 11 #[.pointer (some ⟨gm, 0, none⟩), .func (.func f) #[] cap] w fun e w' => ∃ gs' : List (Option Nat), e = .returned (.int .u8 (((wk tell 8 s 1 (CH.getD last [])).1 : Int) - 256)) ∧
      Mdl w' gm gs' ((wk tell 8 s 1 (CH.getD last [])).1 - 256) (CH.set last (wk tell 8 s 1 (CH.getD last [])).2.2) ∧ Inv gs' 0 w' (wk tell 8 s 1 (CH.getD last [])).2.1 ∧ Kp (fun i => S gs' i ∨ i = gm ∨ some i ∈ gs') w w' ∧
      (∀ k, some k ∈ gs' → some k ∈ gs ∨ w.heap.size ≤ k) ∧ (∀ k, some k ∈ gs → some k ∈ gs') ∧ FineR (CH.set last (wk tell 8 s 1 (CH.getD last [])).2.2) ∧ 256 ≤ (wk tell 8 s 1 (CH.getD last [])).1 := by
  obtain ⟨tot, htot⟩ : ∃ t, wk tell 8 s 1 (CH.getD last []) = t := ⟨_, rfl⟩
  have M0 := Aside0.mk hM
  have F0 := Aside0.mk hF
  have HS := Aside0.mk hS
  have HC := Aside0.mk hcall
  have HFR := Aside0.mk hfr
  have HR := Aside0.mk hrow
  have HT := Aside0.mk htot
  rw [htot]
  clear hM hF hS hcall hfr hrow htot
  go_enter Try.func11, Try.ntmps11
  go_wp2_with fail
  refine (row_calls gm last gs CH w M0.out).mono ?_
  rintro e w1 ⟨g, gs1, rfl, hg1, hn1, hm1, hM1, hK1⟩
  have M1 := Aside0.mk hM1
  have GG := Aside0.mk (And.intro hg1 (And.intro hn1 hm1))
  have I1 := Aside0.mk (HR.out gs1 w1 hn1 hm1 hM1 hK1)
  have K1 := Aside0.mk (hK1.imp (S' := fun i => S gs1 i ∨ i = gm ∨ some i ∈ gs1) (fun i _ h => Or.inr (Or.inl h)))
  have hgm : some g ∈ gs1 := by
    have hl : last < gs1.length := by rw [hM1.lg]; exact hM1.ll
    rw [List.getD_eq_getElem?_getD, List.getElem?_eq_getElem hl] at hg1
    simp at hg1
    rw [← hg1]; exact List.getElem_mem _
  have HGM := Aside0.mk hgm
  clear hg1 hn1 hm1 hM1 hK1 HR hgm
  go_wp2
  go_loopg [6, 7] 8 (fun q v6 v7 w' => ∃ (A : Nat) (L : Int) (s' : σ) (ch' : List Int), v6 = .int .i64 (A : Int) ∧ v7 = .int .i64 L ∧ Aside0 (L = (q : Int) - 1 ∧ q ≤ 8 ∧ 2 ^ (8 - q) ≤ A ∧ A < 2 * 2 ^ (8 - q) ∧ ch'.length = 256 ∧ FineC ch' ∧ wk tell q s' A ch' = tot) ∧ Aside0 (Mdl w' gm gs1 last (CH.set last ch')) ∧ Aside0 (Inv gs1 q w' s') ∧ Aside0 (Kp (fun i => S gs1 i ∨ i = gm ∨ some i ∈ gs1) w w'))
  case atStart =>
    have hs : CH.set last (CH.getD last []) = CH := by
      have hl : last < CH.length := by rw [M0.out.lc]; exact M0.out.ll
      rw [List.getD_eq_getElem?_getD, List.getElem?_eq_getElem hl]
      simp
    exact ⟨1, 7, s, CH.getD last [], rfl, rfl, ⟨rfl, Nat.le_refl _, by decide, by decide, (F0.out last M0.out.ll).1, (F0.out last M0.out.ll).2, HT.out⟩, ⟨by rw [hs]; exact M1.out⟩, I1, K1⟩
  case round =>
    clear M1 I1 K1 HT
    obtain ⟨A, L, s', ch', rfl, rfl, HA, M, I, K⟩ := hrel
    cases gk with
    | zero =>
      have t1 : decide (0 ≤ L) = false := decide_eq_false (by have := HA.out.1; omega)
      have E := Aside0.mk HA.out.2.2.2.2.2.2
      have hlo := HA.out.2.2.1
      have hhi := HA.out.2.2.2.1
      have e8 : 2 ^ (8 - 0) = 256 := by decide
      rw [e8] at hlo hhi
      obtain ⟨B, rfl⟩ : ∃ B, A = B + 256 := ⟨A - 256, by omega⟩
      have eb : IntKind.u8.wrap ((B + 256 : Nat) : Int) = (B : Int) := by rw [IntKind.wrap_u8]; omega
      have eb2 : IntKind.u8.wrap ((B : Int) + 256) = (B : Int) := by rw [IntKind.wrap_u8]; omega
      have hc := M.out.cellLast
      have hfz := M.out.free 256
      have M5 := Aside0.mk (M.out.setLast B (by omega))
      have K5 := Aside0.mk (K.out.set (p := ⟨gm, 256, none⟩) (Or.inr (Or.inl rfl)) (.int .u8 (B : Int)))
      have I5 := Aside0.mk (HFR.out gs1 0 s' wr (wr.setCell ⟨gm, 256, none⟩ (.int .u8 (B : Int))) gm I.out (Or.inl rfl) (fun i hi => Below.heap_setCell _ ⟨gm, 256, none⟩ _ i hi) (by simp))
      have hLN := Aside0.mk (And.intro HA.out.2.2.2.2.1 HA.out.2.2.2.2.2.1)
      clear hlo hhi M K I HA
      go_wp2
      go_ret
      rw [← E.out]
      have M6 : Mdl (wr.setCell ⟨gm, 256, none⟩ (.int .u8 (B : Int))) gm gs1 (B + 256 - 256) (CH.set last ch') := by rw [Nat.add_sub_cancel]; exact M5.out
      refine ⟨?_, gs1, M6, I5.out, K5.out, GG.out.2.1, GG.out.2.2, F0.out.set M0.out.lc M0.out.ll hLN.out.1 hLN.out.2, Nat.le_add_left 256 B⟩
      have e2 : (B : Int) = ((B + 256 : Nat) : Int) - 256 := by omega
      exact congrArg (fun z : Int => Ending.returned (Value.int .u8 z)) e2
    | succ q =>
      have t1 : decide (0 ≤ L) = true := decide_eq_true (by have := HA.out.1; omega)
      have hA : A < 256 := by
        have h1 := HA.out.2.2.2.1
        have h2 := HA.out.2.1
        have h3 : 2 * 2 ^ (8 - (q + 1)) ≤ 2 ^ 8 := by
          rw [← Nat.pow_succ']; exact Nat.pow_le_pow_right (by omega) (by omega)
        have h4 : (2 : Nat) ^ 8 = 256 := by decide
        omega
      have hAl : A < ch'.length := by rw [HA.out.2.2.2.2.1]; exact hA
      have hp := HA.out.2.2.2.2.2.1.at_ hAl
      obtain ⟨p, ep⟩ : ∃ p, ch'.getD A 0 = p := ⟨_, rfl⟩
      rw [ep] at hp
      have HL := Aside0.mk HA.out.2.2.2.2.1
      have hE := HA.out.2.2.2.2.2.2
      rw [wk, ep] at hE
      obtain ⟨b, eb⟩ : ∃ b, (tell s' p q).1 = b := ⟨_, rfl⟩
      obtain ⟨s2, es2⟩ : ∃ s2, (tell s' p q).2 = s2 := ⟨_, rfl⟩
      rw [eb, es2] at hE
      have HE := Aside0.mk hE
      have PA := Aside0.mk (And.intro hA (And.intro ep hp))
      have UF := Aside0.mk (upd_f p b (by omega) (by omega))
      have UI := Aside0.mk (upd_in (b := b) hp.1 hp.2)
      obtain ⟨u, hu⟩ : ∃ u, upd p b = u := ⟨_, rfl⟩
      rw [hu] at UF UI HE
      have EB := Aside0.mk (And.intro eb es2)
      have eL := Aside0.mk (show L = (q : Int) by have := HA.out.1; omega)
      have hlc : last < CH.length := by rw [M0.out.lc]; exact M0.out.ll
      have rowB : ∀ {W : World} {c : List Int}, Mdl W gm gs1 last (CH.set last c) → Blk W g .i64 3 c := by
        intro W c h
        have h1 := h.rows last h.ll
        rw [GG.out.1, getD_set_same CH hlc] at h1
        exact h1
      have RB := Aside0.mk @rowB
      have hca := ((rowB M.out).cell A hAl).trans (show _ = some (Value.int .i64 p) by rw [ep])
      have q1 : (0 ≤ (A : Int)) = True := eq_true (by omega)
      have q2 : ((A : Int) < 256) = True := eq_true (by omega)
      have q3 : (A < 256) = True := eq_true hA
      clear hA hAl hp ep hE eb es2 hlc rowB hu
      have o1 := or_one A (by have := PA.out.1; omega)
      have o2 : IntKind.i64.wrap ((A : Int) * 2) = (A : Int) * 2 := by rw [IntKind.wrap_i64]; have := PA.out.1; omega
      have o3 : wrap64 ((A : Int) * 2) = (A : Int) * 2 := w64 (by omega) (by have := PA.out.1; omega)
      have KQ := Aside0.mk (show 2 ^ (8 - q) = 2 * 2 ^ (8 - (q + 1)) by
        have h2 := HA.out.2.1
        rw [← Nat.pow_succ']; congr 1; omega)
      have PU := Aside0.mk (fun {W : World} (h : Mdl W gm gs1 last (CH.set last ch')) => show Mdl (W.setCell ⟨g, A, none⟩ (.int .i64 u)) gm gs1 last (CH.set last (ch'.set A u)) from by
        have h1 := h.put h.ll GG.out.1 A u
        have hlc : last < CH.length := by rw [M0.out.lc]; exact M0.out.ll
        rw [getD_set_same CH hlc, set_set_same] at h1
        exact h1)
      go_wp2_with (first
        | ((with_reducible refine gate_dst (N := 21) rfl ?_); refine goesV_ (some 21) rfl rfl hf hname hb rfl rfl (#[.int .i64 p, .int .i64 (q : Int)] ++ cap) (by rw [← eL.out]; simp [go_sem]) ?_; refine (HC.out gs1 s' p q _ I.out PA.out.2.2.1 PA.out.2.2.2 (by have := HA.out.2.1; omega)).mono ?_; rintro e w7 ⟨rfl, hI7, hK7⟩; rw [EB.out.2] at hI7; refine ⟨_, rfl, ?_⟩; rw [EB.out.1]; have M7 := Aside0.mk (M.out.kp hK7 (HS.out gs1).1 (HS.out gs1).2); have I7 := Aside0.mk hI7; have K7 := Aside0.mk (K.out.trans (hK7.imp (fun _ _ h => Or.inl h))); clear hI7 hK7; have hc7 := ((RB.out M7.out).cell A (by rw [HL.out]; exact PA.out.1)).trans (show _ = some (Value.int .i64 p) by rw [PA.out.2.1]); have hf7 := (RB.out M7.out).free A)
        | (go_at_call 23; (with_reducible refine (prob_Update.calls 1 p b _ _ _ UF.out).mono ?_); rintro e w8 ⟨rfl, hd⟩; have M8 := Aside0.mk (M7.out.below hd.below); have K8 := Aside0.mk (K7.out.trans (Kp.below hd.below)); have I8 := Aside0.mk (HFR.out gs1 q s2 _ w8 gm I7.out (Or.inl rfl) (fun i _ => drawn_heap hd i) (drawn_size hd)); have hc8 := ((RB.out M8.out).cell A (by rw [HL.out]; exact PA.out.1)).trans (show _ = some (Value.int .i64 p) by rw [PA.out.2.1]); have hf8 := (RB.out M8.out).free A; clear hd))
      all_goals
        rename_i hbb
        subst hbb
        have M9 := Aside0.mk (PU.out M8.out)
        have I9 := Aside0.mk (HFR.out gs1 q s2 w8 (w8.setCell ⟨g, A, none⟩ (.int .i64 u)) g I8.out (Or.inr HGM.out) (fun i hi => Below.heap_setCell _ ⟨g, A, none⟩ _ i hi) (by simp))
        have K9 := Aside0.mk (K8.out.set (p := ⟨g, A, none⟩) (Or.inr (Or.inr HGM.out)) (.int .i64 u))
        go_roundg q
        case measure => omega
        case rel =>
          refine ⟨_, wrap64 (L - 1), s2, _, ?_, rfl, ⟨?_, by have := HA.out; omega, ?_, ?_, by rw [List.length_set]; exact HL.out, HA.out.2.2.2.2.2.1.set A UI.out, HE.out⟩, M9, I9, K9⟩
          · first | rfl | (congr 1; simp; omega)
          · have := eL.out; have := HA.out.2.1; rw [w64 (by omega) (by omega)]; omega
          · have := HA.out; rw [KQ.out]; first | (rw [if_pos rfl]; omega) | (rw [if_neg (by decide)]; omega)
          · have := HA.out; rw [KQ.out]; first | (rw [if_pos rfl]; omega) | (rw [if_neg (by decide)]; omega)
end Go.Proofs.Ytldhkhppefnmnaa.Hd
/- markov.Encode, walked by hand. -/
namespace Go.Proofs.Ytldhkhppefnmnaa.Hd
open Go Go.RowKit Go.Proofs.YtldhkhppefnmnaaW.PrintWords Go.Proofs.YtldhkhppefnmnaaW.PrintLast Go.Proofs.YtldhkhppefnmnaaW.PrintMore Go.Proofs.Ytldhkhppefnmnaa.Hw Go.Proofs.Ytldhkhppefnmnaa.Com Go.Proofs.Ytldhkhppefnmnaa.Rn Go.Proofs.Ytldhkhppefnmnaa.P
attribute [local go_sem] max2_int min2_int max_two min_two max_three min_three max_four min_four
theorem infoLB : (Try.prog.info? 37).map (fun i => (i.zero, i.size, i.bytes)) = some (some (.slice none 0 0), 1, 24) := by kernel_rfl
theorem infoLI : (Try.prog.info? 33).map (fun i => (i.zero, i.size, i.bytes)) = some (some (.slice none 0 0), 1, 24) := by kernel_rfl
theorem infoM : (Try.prog.info? 36).map (fun i => (i.zero, i.size, i.bytes)) = some (some (.agg (mcells (List.replicate 256 none) 0)), 257, 6152) := by kernel_rfl
theorem infoU8 : (Try.prog.info? 5).map (fun i => (i.zero, i.size, i.bytes)) = some (some (.int .u8 0), 1, 1) := by kernel_rfl
theorem oneU8 : (Try.prog.info? 5).map (·.size) = some 1 := by kernel_rfl
/-- Two rows in variables, between the bytes. -/
def EncH (base : Nat) (X : Nat → Prop) (gb gp : Nat) (bl : List Bool) (pl : List Int) (W : World) : Prop :=
  (base ≤ gb ∧ ¬ X gb) ∧ (base ≤ gp ∧ ¬ X gp) ∧ ∃ vb vp, NJ W base X gb gp vb vp vb vp bl pl W
theorem EncH.re {base : Nat} {X X' : Nat → Prop} {gb gp : Nat} {bl : List Bool} {pl : List Int} {W W1 : World} (h : EncH base X gb gp bl pl W) (hm : ∀ i, i < W.heap.size → ¬ X i → W1.heap[i]? = W.heap[i]?) (hs : W.heap.size ≤ W1.heap.size)
    (hX : ∀ k, X' k → X k ∨ W.heap.size ≤ k) (hlt : ∀ k, X' k → k < W1.heap.size) : EncH base X' gb gp bl pl W1 := by
  obtain ⟨h1, h2, vb, vp, J⟩ := h
  have nx : ∀ k, k < W.heap.size → ¬ X k → ¬ X' k := fun k hk hn hx => (hX k hx).elim hn (fun h => by omega)
  have lb := blk_lt J.hb
  have lp := blk_lt J.hp
  refine ⟨⟨h1.1, nx gb lb h1.2⟩, ⟨h2.1, nx gp lp h2.2⟩, vb, vp, (hm gb lb h1.2).trans J.hb, (hm gp lp h2.2).trans J.hp, ?_, ?_, Kp.refl _ _, hlt, Nat.le_trans J.bs hs⟩
  · exact Kd.R_mono (Kd.R_move (Kd.R_bound J.rb) (fun k hk => hm k hk.2.2.1 hk.1)) (fun k hk => nx k hk.2.2.1 hk.1)
  · exact Kd.R_mono (Kd.R_move (Kd.R_bound J.rp) (fun k hk => hm k hk.2.2.1 hk.1)) (fun k hk => nx k hk.2.2.1 hk.1)
/-- What no bit writes: the bytes, a model and its rows; and a variable. -/
def XM (gy gm : Nat) (gs : List (Option Nat)) (k : Nat) : Prop := k = gy ∨ k = gm ∨ some k ∈ gs
def XE (gx gy gm : Nat) (gs : List (Option Nat)) (k : Nat) : Prop := k = gx ∨ XM gy gm gs k
/-- The bits of bytes, told to two rows. -/
def mkT : List Nat → List Bool × List Int → Nat → List (List Int) → List Bool × List Int
  | [], st, _, _ => st
  | c :: t, st, last, CH => mkT t (wk (tellE c) 8 st 1 (CH.getD last [])).2.1 ((wk (tellE c) 8 st 1 (CH.getD last [])).1 - 256) (CH.set last (wk (tellE c) 8 st 1 (CH.getD last [])).2.2)
def CH0 : List (List Int) := List.replicate 256 (List.replicate 256 1024)
def mkEnc (s : ByteArray) : ByteArray × Int := if s.size > 16777216 then (⟨#[]⟩, 5) else encP (mkT (nb s) ([], []) 0 CH0).1 (mkT (nb s) ([], []) 0 CH0).2
def markov_Encode.f (s : ByteArray) : Option (ByteArray × Int) := some (mkEnc s)
theorem CH0_at {c : Nat} (hc : c < 256) : CH0.getD c [] = List.replicate 256 1024 := by
  unfold CH0
  rw [List.getD_eq_getElem?_getD, List.getElem?_replicate, if_pos hc]; rfl
theorem CH0_fine : FineR CH0 := fun c hc => by
  rw [CH0_at hc]
  exact ⟨List.length_replicate, fun y hy => by rw [List.eq_of_mem_replicate hy]; omega⟩
theorem mdl_new {W : World} {gm : Nat} (h : W.heap[gm]? = some (.cells (mcells (List.replicate 256 none) 0) 36 (0, 0))) : Mdl W gm (List.replicate 256 none) 0 CH0 := by
  have hn : ∀ c, c < 256 → (List.replicate 256 (none : Option Nat)).getD c none = none := fun c hc => by
    rw [List.getD_eq_getElem?_getD, List.getElem?_replicate, if_pos hc]; rfl
  refine ⟨h, List.length_replicate, List.length_replicate, by decide, fun c hc => ?_, fun c c' hc _ _ hne => absurd (hn c hc) hne⟩
  rw [hn c hc]
  exact CH0_at hc
theorem encWalk (c base lo gx gy gb gp gm last : Nat) (gs : List (Option Nat)) (CH : List (List Int)) (bl : List Bool) (pl : List Int) (w : World) (hc : c < 256)
    (hx : w.heap[gx]? = some (.cells #[.int .u8 (c : Int)] 5 (0, 0))) (hM : Mdl w gm gs last CH) (hF : FineR CH) (hE : EncH base (XE gx gy gm gs) gb gp bl pl w) (hbm : base ≤ gm) (hbg : ∀ k, some k ∈ gs → lo ≤ k) (hbl : base ≤ lo) (hbs : lo ≤ w.heap.size) (hyl : gy < lo) (hym : gy ≠ gm)
    (h1 : bl.length + 8 ≤ 4294967296) (h2 : pl.length + 8 ≤ 4294967296) :
    Calls Try.prog 11 #[.pointer (some ⟨gm, 0, none⟩), .func (.func 12) #[] #[.pointer (some ⟨gx, 0, none⟩), .pointer (some ⟨gb, 0, none⟩), .pointer (some ⟨gp, 0, none⟩)]] w fun e w' => ∃ (r : Int) (gs' : List (Option Nat)), e = .returned (.int .u8 r) ∧
      Mdl w' gm gs' ((wk (tellE c) 8 (bl, pl) 1 (CH.getD last [])).1 - 256) (CH.set last (wk (tellE c) 8 (bl, pl) 1 (CH.getD last [])).2.2) ∧ FineR (CH.set last (wk (tellE c) 8 (bl, pl) 1 (CH.getD last [])).2.2) ∧
      EncH base (XM gy gm gs') gb gp (wk (tellE c) 8 (bl, pl) 1 (CH.getD last [])).2.1.1 (wk (tellE c) 8 (bl, pl) 1 (CH.getD last [])).2.1.2 w' ∧ Kp (fun i => base ≤ i ∧ i ≠ gy) w w' ∧ (∀ k, some k ∈ gs' → lo ≤ k) := by
  have nm : gx ≠ gm := blk_ne hx hM.own (by decide)
  have nr : some gx ∉ gs := fun e => by
    obtain ⟨_, _, _, hb⟩ := hM.rowMem e
    exact blk_ne hx hb (by decide) rfl
  have lx : gx < w.heap.size := blk_lt hx
  refine (mwalk_calls (tellE c) (fun gs' q W s => EncS (.int .u8 (c : Int)) 5 base (XE gx gy gm gs') gx gb gp s.1 s.2 W ∧ some gx ∉ gs' ∧ s.1.length + q ≤ 4294967296 ∧ s.2.length + q ≤ 4294967296) (fun gs' i => base ≤ i ∧ ¬ XE gx gy gm gs' i) gm last 12 gs CH #[.pointer (some ⟨gx, 0, none⟩), .pointer (some ⟨gb, 0, none⟩), .pointer (some ⟨gp, 0, none⟩)] Try.func12 (by kernel_rfl) rfl (bl, pl) w hM hF
    (fun gs' => ⟨fun e => e.2 (Or.inr (Or.inr (Or.inl rfl))), fun g hg e => e.2 (Or.inr (Or.inr (Or.inr hg)))⟩) ?_ ?_ ?_).mono ?_
  · rintro gs' s p k W ⟨hE, hn, h1, h2⟩ hp1 hp hk
    refine (tellE_calls c k p base (XE gx gy gm gs') gx gb gp s.1 s.2 W hc hk hE (by omega) (by omega)).mono ?_
    rintro e w' ⟨rfl, hE', hK⟩
    exact ⟨rfl, ⟨hE', hn, by show (s.1 ++ [bitOf c k]).length + k ≤ _; simp; omega, by show (s.2 ++ [p]).length + k ≤ _; simp; omega⟩, hK⟩
  · rintro gs' q s W W' j ⟨hE, hn, h1, h2⟩ hj hh hs
    have hj' : XE gx gy gm gs' j := hj.elim (fun e => Or.inr (Or.inr (Or.inl e))) (fun e => Or.inr (Or.inr (Or.inr e)))
    have hne : gx ≠ j := fun e => hj.elim (fun h => nm (e.trans h)) (fun h => hn (e ▸ h))
    exact ⟨hE.move (fun i _ hi => hh i (fun e => hi (e ▸ hj'))) ((hh gx hne).trans hE.1) (by omega), hn, h1, h2⟩
  · intro gs' w' hn hm hM' hK
    have hnew : some gx ∉ gs' := fun e => (hn gx e).elim nr (fun h => by omega)
    have he := hE.re (X' := XE gx gy gm gs') (W1 := w') (fun i hi hX => hK.2.2.2.2 i hi (fun e => hX (Or.inr (Or.inr (Or.inl e))))) hK.size
      (by
        rintro k (e | e | e | e)
        · exact Or.inl (Or.inl e)
        · exact Or.inl (Or.inr (Or.inl e))
        · exact Or.inl (Or.inr (Or.inr (Or.inl e)))
        · exact (hn k e).elim (fun h => Or.inl (Or.inr (Or.inr (Or.inr h)))) Or.inr)
      (by
        rintro k (e | e | e | e)
        · have := hK.size; omega
        · have := hK.size; omega
        · rw [e]; exact hM'.lt
        · exact hM'.rowLt e)
    exact ⟨⟨hK.at_ hx nm, Or.inl rfl, he⟩, hnew, h1, h2⟩
  · rintro e w' ⟨gs', rfl, hM', ⟨hE', hnx, _, _⟩, hK, hn, hm, hF', _⟩
    have hbg' : ∀ k, some k ∈ gs' → lo ≤ k := fun k hk => (hn k hk).elim (hbg k) (fun h => by omega)
    have hsz := hK.size
    refine ⟨_, gs', rfl, hM', hF', ?_, hK.imp (fun i _ h => h.elim (fun h => ⟨h.1, fun e => h.2 (Or.inr (Or.inl e))⟩) (fun h => h.elim (fun h => ⟨h ▸ hbm, fun e => hym (e.symm.trans h)⟩) (fun h => by have := hbg' i h; exact ⟨by omega, by omega⟩))), hbg'⟩
    refine EncH.re (X := XE gx gy gm gs') hE'.2.2 (fun _ _ _ => rfl) (Nat.le_refl _) (fun k hk => Or.inl (Or.inr hk)) ?_
    rintro k (e | e | e)
    · omega
    · rw [e]; exact hM'.lt
    · exact hM'.rowLt e
theorem mkT_len (l : List Nat) : ∀ (st : List Bool × List Int) (last : Nat) (CH : List (List Int)), (mkT l st last CH).1.length = st.1.length + 8 * l.length ∧ (mkT l st last CH).2.length = st.2.length + 8 * l.length := by
  induction l with
  | nil => intro st last CH; exact ⟨rfl, rfl⟩
  | cons c t ih =>
    intro st last CH
    rw [mkT]
    have h := ih (wk (tellE c) 8 st 1 (CH.getD last [])).2.1 ((wk (tellE c) 8 st 1 (CH.getD last [])).1 - 256) (CH.set last (wk (tellE c) 8 st 1 (CH.getD last [])).2.2)
    have h2 := wk_len c 8 st 1 (CH.getD last [])
    rw [h.1, h.2, h2.1, h2.2, List.length_cons]
    omega
set_option maxHeartbeats 8000000 in
set_option maxRecDepth 100000 in
theorem markov_Encode.calls (s : ByteArray) (r1 : ByteArray) (r2 : Int) (w : World) (h : markov_Encode.f s = some (r1, r2)) :
    Calls Try.prog 6 #[.string s] w fun e w' => e = .returned (.tuple #[.string r1, .int .i64 r2]) ∧ Below w.heap.size w w' := by
  unfold markov_Encode.f mkEnc at h
  replace h := Option.some.inj h
  by_cases hs : s.size > 16777216
  · rw [if_pos hs] at h
    obtain ⟨rfl, rfl⟩ := Prod.mk.inj h
    have t1 : decide ((s.size : Int) > 16777216) = true := decide_eq_true (by omega)
    have t2 : decide ((16777216 : Int) < (s.size : Int)) = true := decide_eq_true (by omega)
    have t3 : decide (16777216 < s.size) = true := decide_eq_true (by omega)
    clear h hs
    go_enter Try.func6, Try.ntmps6
    go_wp2
    go_ret2
    exact ⟨rfl, by repeat (first | (with_reducible first | apply below_alloc | apply pw_below_drewN | apply below_drew1) | exact Below.refl _ _)⟩
  · rw [if_neg hs] at h
    have t1 : decide ((s.size : Int) > 16777216) = false := decide_eq_false (by omega)
    have t2 : decide ((16777216 : Int) < (s.size : Int)) = false := decide_eq_false (by omega)
    have t3 : decide (16777216 < s.size) = false := decide_eq_false (by omega)
    have HN := Aside0.mk (show s.size ≤ 16777216 by omega)
    have HE := Aside0.mk h
    clear h hs
    go_enter Try.func6, Try.ntmps6
    go_wp2_with (first
      | ((with_reducible refine gate_dst (N := 4) rfl ?_); refine alloc_any rfl rfl infoM rfl ?_; intro gm w1 G1 K1 B1)
      | ((with_reducible refine gate_dst (N := 5) rfl ?_); refine alloc_any rfl rfl infoLB rfl ?_; intro gb w2 G2 K2 B2)
      | ((with_reducible refine gate_dst (N := 6) rfl ?_); refine alloc_any rfl rfl infoLI rfl ?_; intro gp w3 G3 K3 B3)
      | ((with_reducible refine gate_dst (N := 13) rfl ?_); refine conv_event rfl rfl s rfl Try.underlying9 Try.underlying38 Try.underlying5 ?_; intro w4 c4 hcc hby hB4; have Y4 := Aside0.mk hby; have B4 := Aside0.mk hB4; clear hby hB4 hcc))
    have E5 := Aside0.mk (show EncH w.heap.size (XM w3.heap.size gm (List.replicate 256 none)) gb gp [] [] w4 ∧ Mdl w4 gm (List.replicate 256 none) 0 CH0 ∧ w.heap.size ≤ gm ∧ Below w.heap.size w w4 ∧ Byt w4 w3.heap.size s ∧ (w.heap.size ≤ w3.heap.size ∧ w3.heap.size < w4.heap.size ∧ w3.heap.size ≠ gm) from by
      have hb1 := below_step B1.out B2.out
      have hb2 := below_step hb1 B3.out
      have hb3 := below_step hb2 B4.out
      have l1 := blk_lt K1.out
      have l2 := blk_lt K2.out
      have l3 := blk_lt K3.out
      have z1 := B1.out.size; have z2 := B2.out.size; have z3 := B3.out.size; have z4 := B4.out.size
      have g1 := G1.out; have g2 := G2.out; have g3 := G3.out
      have km := mdl_new (blk_below (blk_below (blk_below K1.out B2.out) B3.out) B4.out)
      have kb : w4.heap[gb]? = some (.cells #[.slice none 0 0] 37 (0, 0)) := blk_below (blk_below K2.out B3.out) B4.out
      have kp : w4.heap[gp]? = some (.cells #[.slice none 0 0] 33 (0, 0)) := blk_below K3.out B4.out
      have nm : ∀ k, some k ∉ List.replicate 256 (none : Option Nat) := fun k e => by have := List.eq_of_mem_replicate e; cases this
      refine ⟨⟨⟨by omega, ?_⟩, ⟨by omega, ?_⟩, _, _, kb, kp, Kd.R_nil _ _ _ _ _, Kd.R_nil _ _ _ _ _, Kp.refl _ _, ?_, by omega⟩, km, by omega, hb3, Y4.out, by omega, Y4.out.lt, by omega⟩
      · rintro (e | e | e)
        · omega
        · omega
        · exact nm _ e
      · rintro (e | e | e)
        · omega
        · omega
        · exact nm _ e
      · rintro k (e | e | e)
        · rw [e]; exact Y4.out.lt
        · rw [e]; exact km.lt
        · exact (nm _ e).elim)
    clear B1 B2 B3 B4 K1 K2 K3 G1 G2 G3 Y4
    go_loopg [15] s.size (fun q v15 w' => ∃ (L : Int) (i last : Nat) (gs : List (Option Nat)) (CH : List (List Int)) (bl : List Bool) (pl : List Int), v15 = .int .i64 L ∧ Aside0 (L = (i : Int) ∧ i + q = s.size ∧ bl.length = 8 * i ∧ pl.length = 8 * i ∧ mkT ((nb s).drop i) (bl, pl) last CH = mkT (nb s) ([], []) 0 CH0 ∧ FineR CH ∧ ∀ k, some k ∈ gs → w4.heap.size ≤ k) ∧
      Aside0 (EncH w.heap.size (XM w3.heap.size gm gs) gb gp bl pl w' ∧ w4.heap.size ≤ w'.heap.size) ∧ Aside0 (Mdl w' gm gs last CH) ∧ Aside0 (Byt w' w3.heap.size s) ∧ Aside0 (Below w.heap.size w w'))
    case atStart => exact ⟨0, 0, 0, _, CH0, [], [], rfl, ⟨rfl, by omega, rfl, rfl, rfl, CH0_fine, fun k e => by have := List.eq_of_mem_replicate e; cases this⟩, ⟨E5.out.1, Nat.le_refl _⟩, ⟨E5.out.2.1⟩, ⟨E5.out.2.2.2.2.1⟩, ⟨E5.out.2.2.2.1⟩⟩
    case round =>
      have GM := Aside0.mk (And.intro E5.out.2.2.1 E5.out.2.2.2.2.2)
      clear E5
      obtain ⟨L, i, last, gs, CH, bl, pl, rfl, HA, E, M, Y, B⟩ := hrel
      cases gk with
      | zero =>
        have t4 : decide (L < (s.size : Int)) = false := decide_eq_false (by have := HA.out; omega)
        have h := HE.out
        rw [← HA.out.2.2.2.2.1, List.drop_eq_nil_of_le (by rw [nb_length]; have := HA.out; omega)] at h
        have RF := Aside0.mk (show ranger_Encode.f bl pl = some (r1, r2) from by
          have h' : encP bl pl = (r1, r2) := h
          unfold ranger_Encode.f
          rw [if_pos (by have := HA.out; have := HN.out; omega), h'])
        obtain ⟨hGB, hGP, vb, vp, J⟩ := E.out.1
        obtain ⟨Ab, cb, rfl, hlb, hCb⟩ := Kd.R_reads J.rb
        obtain ⟨Ap, cp, rfl, hlp, hCp⟩ := Kd.R_reads J.rp
        have CB := Aside0.mk hCb
        have CP := Aside0.mk hCp
        have LB := Aside0.mk hlb
        have LP := Aside0.mk hlp
        have hcb := (blk_cell J.hb 0).trans (rfl : _ = some (Value.slice Ab bl.length cb))
        have hcp := (blk_cell J.hp 0).trans (rfl : _ = some (Value.slice Ap pl.length cp))
        clear hGB hGP J hCb hCp hlb hlp h
        go_wp2_with (first
          | (go_at_call 13; (with_reducible refine (ranger_Encode.calls Ab cb bl Ap cp pl r1 r2 _ CB.out LB.out CP.out LP.out RF.out).mono ?_); rintro e w7 ⟨rfl, hB⟩; have B7 := Aside0.mk (below_step B.out hB); clear hB))
        go_ret2
        exact ⟨rfl, B7.out⟩
      | succ q =>
        have t4 : decide (L < (s.size : Int)) = true := decide_eq_true (by have := HA.out; omega)
        have p1 : (0 ≤ L) = True := eq_true (by have := HA.out; omega)
        have p2 : (L < (s.size : Int)) = True := eq_true (by have := HA.out; omega)
        have hi : i < s.size := by have := HA.out; omega
        have eL : L.toNat = i := by have := HA.out; omega
        obtain ⟨c, hc⟩ : ∃ c : Nat, (nb s).getD i 0 = c := ⟨_, rfl⟩
        have hc1 := Y.out.cell i hi
        rw [bt_nb, hc, ← eL] at hc1
        have hil : i < (nb s).length := by rw [nb_length]; exact hi
        have ec : (nb s)[i] = c := by
          rw [← hc, List.getD_eq_getElem?_getD, List.getElem?_eq_getElem hil]; rfl
        have hd : (nb s).drop i = c :: (nb s).drop (i + 1) := by rw [List.drop_eq_getElem_cons hil, ec]
        have hE := HA.out.2.2.2.2.1
        rw [hd, mkT] at hE
        obtain ⟨R, hR⟩ : ∃ R, wk (tellE c) 8 (bl, pl) 1 (CH.getD last []) = R := ⟨_, rfl⟩
        have hwl := wk_len c 8 (bl, pl) 1 (CH.getD last [])
        rw [hR] at hE hwl
        have HM := Aside0.mk hE
        have HR := Aside0.mk (And.intro hR hwl)
        have HC := Aside0.mk (show c < 256 by rw [← ec]; exact nb_lt s _ (List.getElem_mem hil))
        clear hi eL hil ec hd hE hc hR hwl
        go_wp2_with (first
          | ((with_reducible refine gate_dst (N := 8) rfl ?_); refine alloc_any rfl rfl infoU8 rfl ?_; intro gx w5 G5 K5 B5; have hx5 := (blk_cell K5.out 0).trans (rfl : _ = some (Value.int .u8 0)); have hf5 := blk_frozen K5.out 0)
          | ((with_reducible refine gate_store (t := 5) (p := 8) rfl ?_); refine store_one rfl 5 (.tmp 8) (.tmp 18) rfl gx _ rfl rfl rfl 5 _ K5.out oneU8 ?_; intro w6 K6 G6; clear hx5 hf5))
        have EE := E.out.1
        have lM := M.out.lt
        have lY := Y.out.lt
        have g5 := G5.out
        have z5 := B5.out.size
        have z6 := G6.out.size
        have l6 : gx < w6.heap.size := blk_lt K6.out
        have hmv : ∀ i, i < wr.heap.size → w6.heap[i]? = wr.heap[i]? := fun i hi => (G6.out.block i (by omega) (fun e => by injection e with e; omega)).trans (B5.out.block i hi)
        have hM6 : Mdl w6 gm gs last CH := M.out.move (hmv gm lM) (fun g hg => hmv g (M.out.rowLt hg))
        have hE6 : EncH w.heap.size (XE gx w3.heap.size gm gs) gb gp bl pl w6 := EE.re (fun i hi _ => hmv i hi) (by omega) (fun k hk => hk.elim (fun h => Or.inr (by omega)) Or.inl) (by
          rintro k (e | e | e | e)
          · omega
          · omega
          · rw [e]; exact hM6.lt
          · exact hM6.rowLt e)
        have hY6 : Byt w6 w3.heap.size s := Y.out.of_heap (hmv _ lY)
        have hB6 : Below w.heap.size w w6 := below_grown (below_step B.out B5.out) G6.out (by have := B.out.size; omega) (by have := B.out.size; omega)
        have hbs : w4.heap.size ≤ w6.heap.size := by have := E.out.2; omega
        have E6 := Aside0.mk hE6
        have M6 := Aside0.mk hM6
        have Y6 := Aside0.mk hY6
        have B6 := Aside0.mk hB6
        have Z6 := Aside0.mk hbs
        clear EE lM lY g5 z5 z6 l6 hmv hM6 hE6 hY6 hB6 hbs
        refine (encWalk c w.heap.size w4.heap.size gx w3.heap.size gb gp gm last gs CH bl pl w6 HC.out K6.out M6.out HA.out.2.2.2.2.2.1 E6.out GM.out.1 HA.out.2.2.2.2.2.2 (by have := GM.out; omega) Z6.out GM.out.2.2.1 GM.out.2.2.2 (by have := HA.out; have := HN.out; omega) (by have := HA.out; have := HN.out; omega)).mono ?_
        rintro e w7 ⟨r, gs7, rfl, hM7, hF7, hE7, hK7, hg7⟩
        rw [HR.out.1] at hM7 hF7 hE7
        have M7 := Aside0.mk hM7
        have F7 := Aside0.mk (And.intro hF7 hg7)
        have E7 := Aside0.mk (And.intro hE7 (Nat.le_trans Z6.out hK7.size))
        have Y7 := Aside0.mk (Y6.out.of_heap (hK7.2.2.2.2 _ Y6.out.lt (fun e => e.2 rfl)))
        have B7 := Aside0.mk (Kp.join B6.out hK7 (fun _ h => h.1) B6.out.size)
        clear hM7 hF7 hE7 hK7 hg7
        go_wp2
        go_roundg q
        case measure => omega
        case rel =>
          have hwl := HR.out.2
          refine ⟨wrap64 (L + 1), i + 1, _, gs7, _, _, _, rfl, ⟨?_, by have := HA.out; omega, ?_, ?_, HM.out, F7.out.1, F7.out.2⟩, E7, M7, Y7, B7⟩
          · have := HA.out; have := HN.out; rw [w64 (by omega) (by omega)]; omega
          · rw [hwl.1]; have := HA.out; show bl.length + 8 = _; omega
          · rw [hwl.2]; have := HA.out; show pl.length + 8 = _; omega
end Go.Proofs.Ytldhkhppefnmnaa.Hd
/- markov.Decode, walked by hand. -/
namespace Go.Proofs.Ytldhkhppefnmnaa.Hd
open Go Go.RowKit Go.Proofs.YtldhkhppefnmnaaW.PrintWords Go.Proofs.YtldhkhppefnmnaaW.PrintLast Go.Proofs.YtldhkhppefnmnaaW.PrintMore Go.Proofs.Ytldhkhppefnmnaa.Hw Go.Proofs.Ytldhkhppefnmnaa.Com Go.Proofs.Ytldhkhppefnmnaa.Rn Go.Proofs.Ytldhkhppefnmnaa.P
attribute [local go_sem] max2_int min2_int max_two min_two max_three min_three max_four min_four
theorem infoD : (Try.prog.info? 47).map (fun i => (i.zero, i.size, i.bytes)) = some (some (.pointer none), 1, 8) := by kernel_rfl
theorem oneD : (Try.prog.info? 47).map (·.size) = some 1 := by kernel_rfl
/-- The bytes that a decoder's bits are. -/
def mkD : Nat → Ds → Nat → List (List Int) → List Nat
  | 0, _, _, _ => []
  | k + 1, d, last, CH => ((wk tellD 8 d 1 (CH.getD last [])).1 - 256) :: mkD k (wk tellD 8 d 1 (CH.getD last [])).2.1 ((wk tellD 8 d 1 (CH.getD last [])).1 - 256) (CH.set last (wk tellD 8 d 1 (CH.getD last [])).2.2)
def mkDec (s : ByteArray) (many : Int) : ByteArray × Int := if many < 0 ∨ 16777216 < many then (⟨#[]⟩, 1) else (strOfNums (zi (mkD many.toNat (dStart s) 0 CH0)), 0)
def markov_Decode.f (s : ByteArray) (many : Int) : Option (ByteArray × Int) := some (mkDec s many)
theorem RU_kp {S : Nat → Prop} {w w1 : World} {base : Nat} {ok : Nat → Prop} {v : Value} {xs : List Int} (h : Kd.R (Kd.int .u8) 5 w base ok v xs) (k : Kp S w w1) (hn : ∀ i, v.ownBlock = some i → ¬ S i) : Kd.R (Kd.int .u8) 5 w1 base ok v xs := by
  have hlt : ∀ k, v.ownBlock = some k → k < w.heap.size := fun k hk => Kd.R_lt h k hk
  obtain ⟨h0, inner, ho, hr⟩ := h
  exact ⟨h0, inner, own_move ho (fun i hi => k.2.2.2.2 i (hlt i hi) (hn i hi)), hr⟩
theorem decWalk (gv g gm last : Nat) (gs : List (Option Nat)) (CH : List (List Int)) (d : Ds) (w : World) (hE : DcS gv g d w) (hM : Mdl w gm gs last CH) (hF : FineR CH) :
    Calls Try.prog 11 #[.pointer (some ⟨gm, 0, none⟩), .func (.func 18) #[] #[.pointer (some ⟨gv, 0, none⟩)]] w fun e w' => ∃ gs' : List (Option Nat), e = .returned (.int .u8 (((wk tellD 8 d 1 (CH.getD last [])).1 : Int) - 256)) ∧
      Mdl w' gm gs' ((wk tellD 8 d 1 (CH.getD last [])).1 - 256) (CH.set last (wk tellD 8 d 1 (CH.getD last [])).2.2) ∧ FineR (CH.set last (wk tellD 8 d 1 (CH.getD last [])).2.2) ∧ DcS gv g (wk tellD 8 d 1 (CH.getD last [])).2.1 w' ∧
      Kp (fun i => i = g ∨ i = gm ∨ some i ∈ gs') w w' ∧ (∀ k, some k ∈ gs' → some k ∈ gs ∨ w.heap.size ≤ k) ∧ 256 ≤ (wk tellD 8 d 1 (CH.getD last [])).1 := by
  have n1 : g ≠ gm := blk_ne hE.2.1 hM.own (by decide)
  have n2 : gv ≠ gm := blk_ne hE.1 hM.own (by decide)
  have n3 : some g ∉ gs := fun e => by
    obtain ⟨_, _, _, hb⟩ := hM.rowMem e
    exact blk_ne hE.2.1 hb (by decide) rfl
  have n4 : some gv ∉ gs := fun e => by
    obtain ⟨_, _, _, hb⟩ := hM.rowMem e
    exact blk_ne hE.1 hb (by decide) rfl
  have l1 : g < w.heap.size := blk_lt hE.2.1
  have l2 : gv < w.heap.size := blk_lt hE.1
  refine (mwalk_calls tellD (fun gs' _ W d => DcS gv g d W ∧ some g ∉ gs' ∧ some gv ∉ gs') (fun gs' i => i = g ∧ some g ∉ gs') gm last 18 gs CH #[.pointer (some ⟨gv, 0, none⟩)] Try.func18 (by kernel_rfl) rfl d w hM hF
    (fun gs' => ⟨fun e => n1 e.1.symm, fun q hq e => e.2 (e.1 ▸ hq)⟩) ?_ ?_ ?_).mono ?_
  · rintro gs' s p k W ⟨hE, hn⟩ hp1 hp hk
    obtain ⟨q, rfl⟩ : ∃ q : Nat, p = q := ⟨p.toNat, by omega⟩
    refine (tellD_calls q k gv g s W hE (by omega) (by omega)).mono ?_
    rintro e w' ⟨rfl, hE', hK⟩
    refine ⟨?_, ⟨?_, hn⟩, hK.imp (fun i _ h => ⟨h, hn.1⟩)⟩
    · simp [tellD]
    · simpa [tellD] using hE'
  · rintro gs' q s W W' j ⟨hE, hn1, hn2⟩ hj hh hs
    have h1 : g ≠ j := fun e => hj.elim (fun h => n1 (e.trans h)) (fun h => hn1 (e ▸ h))
    have h2 : gv ≠ j := fun e => hj.elim (fun h => n2 (e.trans h)) (fun h => hn2 (e ▸ h))
    exact ⟨hE.move (hh g h1) (hh gv h2), hn1, hn2⟩
  · intro gs' w' hn hm hM' hK
    exact ⟨hE.move (hK.2.2.2.2 g l1 n1) (hK.2.2.2.2 gv l2 n2), fun e => (hn g e).elim n3 (fun h => by omega), fun e => (hn gv e).elim n4 (fun h => by omega)⟩
  · rintro e w' ⟨gs', rfl, hM', ⟨hE', _⟩, hK, hn, hm, hF', hlo⟩
    exact ⟨gs', rfl, hM', hF', hE', hK.imp (fun i _ h => h.elim (fun h => Or.inl h.1) Or.inr), hn, hlo⟩
set_option maxHeartbeats 8000000 in
set_option maxRecDepth 100000 in
theorem markov_Decode.calls (s : ByteArray) (many : Int) (r1 : ByteArray) (r2 : Int) (w : World) (h : markov_Decode.f s many = some (r1, r2)) :
    Calls Try.prog 8 #[.string s, .int .i64 many] w fun e w' => e = .returned (.tuple #[.string r1, .int .i64 r2]) ∧ Below w.heap.size w w' := by
  unfold markov_Decode.f mkDec at h
  replace h := Option.some.inj h
  by_cases hn : many < 0 ∨ 16777216 < many
  · rw [if_pos hn] at h
    obtain ⟨rfl, rfl⟩ := Prod.mk.inj h
    clear h
    by_cases h3 : many < 0
    · have t4 : decide (many < 0) = true := decide_eq_true h3
      clear hn h3
      go_enter Try.func8, Try.ntmps8
      go_wp2
      go_ret2
      exact ⟨rfl, by repeat (first | (with_reducible first | apply below_alloc | apply pw_below_drewN | apply below_drew1) | exact Below.refl _ _)⟩
    · have t4 : decide (many < 0) = false := decide_eq_false h3
      have t5 : decide (many > 16777216) = true := decide_eq_true (by omega)
      have t6 : decide (16777216 < many) = true := decide_eq_true (by omega)
      clear hn h3
      go_enter Try.func8, Try.ntmps8
      go_wp2
      go_ret2
      exact ⟨rfl, by repeat (first | (with_reducible first | apply below_alloc | apply pw_below_drewN | apply below_drew1) | exact Below.refl _ _)⟩
  · rw [if_neg hn] at h
    obtain ⟨mn, rfl⟩ : ∃ m : Nat, many = m := ⟨many.toNat, by omega⟩
    rw [Int.toNat_natCast] at h
    obtain ⟨rfl, rfl⟩ := Prod.mk.inj h
    have HN := Aside0.mk (show mn ≤ 16777216 by omega)
    have t4 : decide ((mn : Int) < 0) = false := decide_eq_false (by omega)
    have t5 : decide ((mn : Int) > 16777216) = false := decide_eq_false (by omega)
    have t6 : decide ((16777216 : Int) < (mn : Int)) = false := decide_eq_false (by omega)
    have t7 : decide (16777216 < mn) = false := decide_eq_false (by omega)
    clear h hn
    go_enter Try.func8, Try.ntmps8
    go_wp2_with (first
      | ((with_reducible refine gate_dst (N := 6) rfl ?_); refine alloc_any rfl rfl infoM rfl ?_; intro gm w1 G1 K1 B1)
      | (go_at_call 17; (with_reducible refine (New_calls s _).mono ?_); rintro e w2 ⟨g, rfl, hg, hS, hB⟩; have D2 := Aside0.mk (show DecD w2 g (dStart s) from hS); have G2 := Aside0.mk hg; have B2 := Aside0.mk hB; clear hg hS hB)
      | ((with_reducible refine gate_dst (N := 7) rfl ?_); refine alloc_any rfl rfl infoD rfl ?_; intro gv w3 G3 K3 B3; have D3 := Aside0.mk (show DecD w3 g (dStart s) from Sp.below D2.out B3.out); have hv3 := (blk_cell K3.out 0).trans (rfl : _ = some (Value.pointer none)); have hf3 := blk_frozen K3.out 0)
      | ((with_reducible refine gate_store (t := 47) (p := 7) rfl ?_); refine store_one rfl 47 (.tmp 7) (.tmp 16) rfl gv _ rfl rfl rfl 47 _ K3.out oneD ?_; intro w4 K4 G4; clear hv3 hf3; have D4 := Aside0.mk (show DecD w4 g (dStart s) from blk_grown D3.out G4.out (fun e => blk_ne D3.out K3.out (by decide) (Option.some.inj e)))))
    have E5 := Aside0.mk (show DcS gv g (dStart s) w4 ∧ Mdl w4 gm (List.replicate 256 none) 0 CH0 ∧ Below w.heap.size w w4 ∧ w.heap.size ≤ gm ∧ w.heap.size ≤ g from by
      have hb2 := below_step B1.out B2.out
      have hb3 := below_step hb2 B3.out
      have z1 := B1.out.size; have z2 := B2.out.size; have z3 := B3.out.size; have z4 := G4.out.size
      have g1 := G1.out; have g2 := G2.out; have g3 := G3.out
      have l1 := blk_lt K1.out
      have km := mdl_new (blk_grown (blk_below (blk_below K1.out B2.out) B3.out) G4.out (fun e => by injection e with e; omega))
      exact ⟨⟨K4.out, D4.out, dStart_ok s⟩, km, below_grown hb3 G4.out (by omega) (by omega), by omega, by omega⟩)
    clear B1 K1 G1 D2 G2 B2 G3 K3 B3 D3 K4 G4 D4
    go_loopg [8] mn (fun q v8 w' => ∃ (A : Option Addr) (xs : List Int) (cc : Nat) (d : Ds) (last : Nat) (gs : List (Option Nat)) (CH : List (List Int)), v8 = .slice A xs.length cc ∧ Aside0 (xs.length + q = mn ∧ xs ++ zi (mkD q d last CH) = zi (mkD mn (dStart s) 0 CH0) ∧ FineR CH ∧ ∀ k, some k ∈ gs → w.heap.size ≤ k) ∧ Aside0 (Kd.R (Kd.int .u8) 5 w' w.heap.size (fun _ => True) (.slice A xs.length cc) xs) ∧
      Aside0 (DcS gv g d w') ∧ Aside0 (Mdl w' gm gs last CH) ∧ Aside0 (Below w.heap.size w w'))
    case atStart => exact ⟨none, [], 0, dStart s, 0, _, CH0, rfl, ⟨by simp, rfl, CH0_fine, fun k e => by have := List.eq_of_mem_replicate e; cases this⟩, ⟨Kd.R_nil _ _ _ _ _⟩, ⟨E5.out.1⟩, ⟨E5.out.2.1⟩, ⟨E5.out.2.2.1⟩⟩
    case round =>
      have GB := Aside0.mk E5.out.2.2.2
      clear E5
      obtain ⟨A, xs, cc, d, last, gs, CH, rfl, HA, R, E, M, B⟩ := hrel
      cases gk with
      | zero =>
        have t8 : decide ((xs.length : Int) < (mn : Int)) = false := decide_eq_false (by have := HA.out; omega)
        have t9 : decide (xs.length < mn) = false := decide_eq_false (by have := HA.out; omega)
        have e := HA.out.2.1
        have e2 : xs ++ zi (mkD 0 d last CH) = xs := List.append_nil xs
        rw [e2] at e
        have E2 := Aside0.mk e
        obtain ⟨A', c', ev, hlc, hC⟩ := Kd.R_reads R.out
        injection ev with e3 e4 e5
        subst e3
        have HC := Aside0.mk hC
        clear e e2 e4 e5 hlc hC
        go_wp2_with (first
          | ((with_reducible refine gate_dst (N := 27) rfl ?_); refine val_event rfl (conv_run rfl rfl (Kd.C_string (P := Try.prog) (c := cc) Try.underlying38 Try.underlying5 Try.underlying9 HC.out)) ?_))
        go_ret2
        rw [E2.out]
        exact ⟨rfl, B.out⟩
      | succ q =>
        have t8 : decide ((xs.length : Int) < (mn : Int)) = true := decide_eq_true (by have := HA.out; omega)
        have t9 : decide (xs.length < mn) = true := decide_eq_true (by have := HA.out; omega)
        obtain ⟨r, hr⟩ : ∃ r, wk tellD 8 d 1 (CH.getD last []) = r := ⟨_, rfl⟩
        have HE := HA.out.2.1
        rw [mkD, hr] at HE
        have HE := Aside0.mk HE
        have HX := Aside0.mk (show xs.length ≤ 16777216 by have := HA.out; have := HN.out; omega)
        have HR := Aside0.mk hr
        clear hr
        go_wp2_with fail
        refine (decWalk gv g gm last gs CH d _ E.out M.out HA.out.2.2.1).mono ?_
        rintro e w6 ⟨gs6, rfl, hM6, hF6, hE6, hK6, hn6, hlo⟩
        rw [HR.out] at hM6 hF6 hE6 hlo
        have hsz := hK6.size
        have hr6 : Kd.R (Kd.int .u8) 5 w6 w.heap.size (fun _ => True) (.slice A xs.length cc) xs := RU_kp R.out hK6 (by
          intro i hi
          obtain ⟨cells, hc⟩ := Kd.R_typed R.out i hi
          have hlt := Kd.R_lt R.out i hi
          rintro (e | e | e)
          · exact blk_ne hc E.out.2.1 (by decide) e
          · exact blk_ne hc M.out.own (by decide) e
          · rcases hn6 i e with h | h
            · obtain ⟨_, _, _, hb⟩ := M.out.rowMem h
              exact blk_ne hc hb (by decide) rfl
            · omega)
        have hb6 : Below w.heap.size w w6 := Kp.join B.out hK6 (by
          rintro i (e | e | e)
          · rw [e]; exact GB.out.2
          · rw [e]; exact GB.out.1
          · exact (hn6 i e).elim (HA.out.2.2.2 i) (fun h => by have := B.out.size; omega)) B.out.size
        have hg6 : ∀ k, some k ∈ gs6 → w.heap.size ≤ k := fun k e => (hn6 k e).elim (HA.out.2.2.2 k) (fun h => by have := B.out.size; omega)
        obtain ⟨y, hy⟩ : ∃ y : Int, ((wk tellD 8 d 1 (CH.getD last [])).1 : Int) - 256 = y := ⟨_, rfl⟩
        rw [hy]
        have HY := Aside0.mk (show y = ((r.1 - 256 : Nat) : Int) by rw [← hy, HR.out]; omega)
        have E6 := Aside0.mk hE6
        have M6 := Aside0.mk hM6
        have F6 := Aside0.mk (And.intro hF6 hg6)
        have R6 := Aside0.mk hr6
        have B6 := Aside0.mk hb6
        clear hM6 hF6 hE6 hK6 hn6 hsz hr6 hb6 hg6 hy hlo
        go_wp2_with (first
          | ((with_reducible refine gate_builtin (b := .append) (xs := #[.tmp 21, .tmp 24]) rfl ?_); at_builtin; refine Kd.R_append (Kd.int .u8) (w0 := w) w.heap.size rfl (.tmp 21) (.tmp 24) 38 5 (.int .u8 0) 1 rfl Try.underlying38 infoU8 rfl (by decide) (by omega) (.slice A xs.length cc) xs y [.int .u8 y] (fun _ => True) (fun _ => False) rfl (by first | (go_simp; done) | (go_simp; rfl)) ?aP (fun _ hk => hk.elim) ?aF ?aO ?aB ?aS ?aL ?_; (case aP => exact rfl); (case aF => exact (fun _ _ => trivial)); (case aO => exact R6.out); (case aB => exact B6.out); (case aS => exact B6.out.size); (case aL => have := HX.out; omega); intro v1 w8 ho8 hb8 hg8 ha8; have E8 := Aside0.mk (E6.out.move (hg8.block g (blk_lt E6.out.2.1) (Kd.R_ne R6.out E6.out.2.1 (by decide))) (hg8.block gv (blk_lt E6.out.1) (Kd.R_ne R6.out E6.out.1 (by decide)))); have M8 := Aside0.mk (M6.out.move (hg8.block gm M6.out.lt (Kd.R_ne R6.out M6.out.own (by decide))) (fun k hk => hg8.block k (M6.out.rowLt hk) (by obtain ⟨_, _, _, hb⟩ := M6.out.rowMem hk; exact Kd.R_ne R6.out hb (by decide)))); obtain ⟨A3, c3, e3⟩ := Kd.R_slice ho8; subst e3; have R8 := Aside0.mk ho8; have B8 := Aside0.mk hb8; clear ho8 hb8 hg8 ha8))
        go_roundg q
        case measure => omega
        case rel =>
          refine ⟨A3, xs ++ [y], c3, _, _, gs6, _, by simp, ⟨by have := HA.out; simp; omega, ?_, F6.out.1, F6.out.2⟩, R8, E8, M8, B8⟩
          rw [List.append_assoc, HY.out]; exact HE.out
end Go.Proofs.Ytldhkhppefnmnaa.Hd
