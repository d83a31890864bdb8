/- What bits are told to, walked by hand: closures that put a bit and a chance behind two rows, and that take a bit from a decoder. -/
import Derived.Test.YtdifgiceallpiaaDoorXRn
import Derived.Test.YtdifgiceallpiaaDoorXHw
import Derived.StillTailTactics
set_option linter.unusedVariables false
set_option linter.unusedSimpArgs false
set_option linter.unusedSectionVars false
namespace Go.Proofs.YtdifgiceallpiaaDoor.Hd
open Go Go.RowKit YtdifgiceallpiaaDoorW.PrintWords YtdifgiceallpiaaDoorW.PrintLast YtdifgiceallpiaaDoorW.PrintMore YtdifgiceallpiaaDoor.Hw YtdifgiceallpiaaDoor.Com YtdifgiceallpiaaDoor.Rn YtdifgiceallpiaaDoor.P
attribute [local go_sem] za9 za8 zbi zbj za0 za1 zba zbb
theorem info3t : (Tryd.prog.info? 3).map (fun i => (i.zero, i.size, i.bytes)) = some (some (.int .i64 0), 1, 8) := by kernel_rfl
theorem infoB : (Tryd.prog.info? 4).map (fun i => (i.zero, i.size, i.bytes)) = some (some (.bool false), 1, 1) := by kernel_rfl
theorem one_at {α : Type} {enc : α → Value} {h1 : ∀ x, (enc x).oneCell' = true} {W : World} {k : Nat} {e : TypeId} {x : α} (h : W.heap[k]? = some (.cells #[enc x] e (0, 0))) : (Kd.scalar enc h1).C W (some ⟨k, 0, none⟩) 1 [x] := by
 refine ⟨rfl, by decide, fun _ => ⟨_, rfl, fun j p hj => ?_⟩⟩
 obtain rfl : j = 0 := by
  rcases j with _ | j
  ·rfl
  ·simp at hj
 obtain rfl : x = p := by simpa using hj
 refine ⟨[enc x], rfl, rfl, fun i u hu => ?_⟩
 rcases i with _ | i
 ·simp at hu
  subst hu
  show W.cell? ((⟨k, 0, none⟩ : Addr).add (0 * 1 + 0)) = _
  rw [add_plain]
  exact (zah h 0).trans rfl
 ·simp at hu
section
variable {P : Program} {ops : Array Oper} {Q : Exit → Act → World → Prop}
theorem lit_step {oi : Oper} {N : Option Tmp} {a : Act} {W : World} {K : Act → World → Prop} {cs : Array Value} {e : TypeId} {n : Nat} (hw : Region.wanted oi (yielded ops a.tmps) = true) (hN : oi.dst = N) (hr : (execOp a.eval oi).run P W = .ok (.value (.slice (some ⟨W.heap.size, 0, none⟩) n n)) (W.alloc (.cells cs e)))
  (h : ∀ k W1, k = W.heap.size → W1.heap[k]? = some (.cells cs e (0, 0)) → Below W.heap.size W W1 → K (a.put N (.slice (some ⟨k, 0, none⟩) n n)) W1) : if Region.wanted oi (yielded ops a.tmps) = true then Oper.wp P oi a W K Q else K (a.put N undef) W :=
 value_ hw hN hr (h _ _ rfl (zck W _) (zac (Below.refl _ _) _))
end
structure NJ (w : World) (base : Nat) (X : Nat → Prop) (gb gp : Nat) (cb cp v1 v2 : Value) (bl : List Bool) (pl : List Int) (W : World) : Prop where
 hb : W.heap[gb]? = some (.cells #[cb] 55 (0, 0))
 hp : W.heap[gp]? = some (.cells #[cp] 29 (0, 0))
 rb : Kd.R Kd.bool 4 W base (fun k => ¬ X k) v1 bl
 rp : Kd.R (Kd.int .i64) 3 W base (fun k => ¬ X k) v2 pl
 kp : Kp (fun i => base ≤ i ∧ ¬ X i) w W
 fx : ∀ k, X k → k < W.heap.size
 bs : base ≤ W.heap.size
section
variable {w W W1 : World} {base : Nat} {X : Nat → Prop} {gb gp : Nat} {cb cp v1 v2 : Value} {bl : List Bool} {pl : List Int}
theorem NJ.fresh (h : NJ w base X gb gp cb cp v1 v2 bl pl W) : ∀ k, W.heap.size ≤ k → ¬ X k := fun k hk e => by have := h.fx k e; omega
theorem NJ.below (h : NJ w base X gb gp cb cp v1 v2 bl pl W) (b : Below W.heap.size W W1) : NJ w base X gb gp cb cp v1 v2 bl pl W1 :=
 ⟨za6 h.hb b, za6 h.hp b, Kd.R_below h.rb b, Kd.R_below h.rp b, h.kp.trans (Kp.below b), fun k hk => Nat.lt_of_lt_of_le (h.fx k hk) b.size, Nat.le_trans h.bs b.size⟩
theorem NJ.appB (h : NJ w base X gb gp cb cp v1 v2 bl pl W) {v3 : Value} {bl' : List Bool} (hR : Kd.R Kd.bool 4 W1 base (fun k => ¬ X k) v3 bl') (g : W.grownBy W1 v1.ownBlock) : NJ w base X gb gp cb cp v3 v2 bl' pl W1 :=
 ⟨zby h.hb g (Kd.R_ne h.rb h.hb (by decide)), zby h.hp g (Kd.R_ne h.rb h.hp (by decide)), hR,
  Kd.R_over' h.rp (Kd.R_typed h.rb) (by intro q hq; simp [Kd.int, Kd.scalar] at hq; subst hq; decide) g,
  h.kp.trans (Kp.grown g (fun k hk => ⟨Kd.R_base h.rb k hk, h.rb.1 k hk⟩)), fun k hk => Nat.lt_of_lt_of_le (h.fx k hk) g.size, Nat.le_trans h.bs g.size⟩
theorem NJ.appP (h : NJ w base X gb gp cb cp v1 v2 bl pl W) {v3 : Value} {pl' : List Int} (hR : Kd.R (Kd.int .i64) 3 W1 base (fun k => ¬ X k) v3 pl') (g : W.grownBy W1 v2.ownBlock) : NJ w base X gb gp cb cp v1 v3 bl pl' W1 :=
 ⟨zby h.hb g (Kd.R_ne h.rp h.hb (by decide)), zby h.hp g (Kd.R_ne h.rp h.hp (by decide)),
  Kd.R_over' h.rb (Kd.R_typed h.rp) (by intro q hq; simp [Kd.bool, Kd.scalar] at hq; subst hq; decide) g, hR,
  h.kp.trans (Kp.grown g (fun k hk => ⟨Kd.R_base h.rp k hk, h.rp.1 k hk⟩)), fun k hk => Nat.lt_of_lt_of_le (h.fx k hk) g.size, Nat.le_trans h.bs g.size⟩
theorem NJ.setB (h : NJ w base X gb gp cb cp v1 v2 bl pl W) (hg : base ≤ gb ∧ ¬ X gb) (v : Value) : NJ w base X gb gp v cp v1 v2 bl pl (W.setCell ⟨gb, 0, none⟩ v) :=
 ⟨blk_set h.hb 0 v, zbo (p := ⟨gb, 0, none⟩) h.hp (zb9 h.hp h.hb (by decide)) v, Kd.R_set h.rb h.hb (by intro q hq; simp [Kd.bool, Kd.scalar] at hq; subst hq; decide) 0 v, Kd.R_set h.rp h.hb (by intro q hq; simp [Kd.int, Kd.scalar] at hq; subst hq; decide) 0 v, h.kp.set (p := ⟨gb, 0, none⟩) hg v, fun k hk => by simpa using h.fx k hk, by simpa using h.bs⟩
theorem NJ.setP (h : NJ w base X gb gp cb cp v1 v2 bl pl W) (hg : base ≤ gp ∧ ¬ X gp) (v : Value) : NJ w base X gb gp cb v v1 v2 bl pl (W.setCell ⟨gp, 0, none⟩ v) :=
 ⟨zbo (p := ⟨gp, 0, none⟩) h.hb (zb9 h.hb h.hp (by decide)) v, blk_set h.hp 0 v, Kd.R_set h.rb h.hp (by intro q hq; simp [Kd.bool, Kd.scalar] at hq; subst hq; decide) 0 v, Kd.R_set h.rp h.hp (by intro q hq; simp [Kd.int, Kd.scalar] at hq; subst hq; decide) 0 v, h.kp.set (p := ⟨gp, 0, none⟩) hg v, fun k hk => by simpa using h.fx k hk, by simpa using h.bs⟩
end
def EncS (xc : Value) (tx : TypeId) (base : Nat) (X : Nat → Prop) (gx gb gp : Nat) (bl : List Bool) (pl : List Int) (W : World) : Prop :=
 W.heap[gx]? = some (.cells #[xc] tx (0, 0)) ∧ X gx ∧ (base ≤ gb ∧ ¬ X gb) ∧ (base ≤ gp ∧ ¬ X gp) ∧ ∃ vb vp, NJ W base X gb gp vb vp vb vp bl pl W
theorem EncS.move {xc xc' : Value} {tx : TypeId} {base : Nat} {X : Nat → Prop} {gx gb gp : Nat} {bl : List Bool} {pl : List Int} {W W1 : World} (h : EncS xc tx base X gx gb gp bl pl W) (hm : ∀ i, i < W.heap.size → ¬ X i → W1.heap[i]? = W.heap[i]?) (hx : W1.heap[gx]? = some (.cells #[xc'] tx (0, 0))) (hs : W.heap.size ≤ W1.heap.size) : EncS xc' tx base X gx gb gp bl pl W1 := by
 obtain ⟨h1, h2, h3, h4, vb, vp, J⟩ := h
 exact ⟨hx, h2, h3, h4, vb, vp, (hm gb (zb0 J.hb) h3.2).trans J.hb, (hm gp (zb0 J.hp) h4.2).trans J.hp, Kd.R_step J.rb (fun k hk hl => hm k hl hk), Kd.R_step J.rp (fun k hk hl => hm k hl hk), Kp.refl _ _, fun k hk => Nat.lt_of_lt_of_le (J.fx k hk) hs, Nat.le_trans J.bs hs⟩
def bitOf (x k : Nat) : Bool := x / 2 ^ k % 2 == 1
theorem bit_and (x k : Nat) (hx : x < 9223372036854775808) : (Go.bits .and .i64 ((x : Int) / 2 ^ k) 1 == 1) = bitOf x k := by
 have e1 : ((x : Int) / 2 ^ k) = ((x / 2 ^ k : Nat) : Int) := by simp
 have h1 : x / 2 ^ k ≤ x := Nat.div_le_self _ _
 rw [e1, show (1 : Int) = ((1 : Nat) : Int) from rfl, (bits_i64 (x / 2 ^ k) 1 (by omega) (by omega)).1, Nat.and_one_is_mod]
 unfold bitOf
 generalize x / 2 ^ k = y
 rw [Bool.eq_iff_iff, beq_iff_eq, beq_iff_eq]
 omega
def DcS (gv g : Nat) (d : Ds) (W : World) : Prop := W.heap[gv]? = some (.cells #[.pointer (some ⟨g, 0, none⟩)] 102 (0, 0)) ∧ DecD W g d ∧ OkD d
theorem DcS.move {gv g : Nat} {d : Ds} {W W1 : World} (h : DcS gv g d W) (hm : W1.heap[g]? = W.heap[g]?) (hx : W1.heap[gv]? = W.heap[gv]?) : DcS gv g d W1 := ⟨hx.trans h.1, hm.trans h.2.1, h.2.2⟩
theorem DcS.ne {gv g : Nat} {d : Ds} {W : World} (h : DcS gv g d W) : gv ≠ g := zb9 h.1 h.2.1 (by decide)
theorem DcS.bit {gv g : Nat} {d : Ds} {W : World} (h : DcS gv g d W) (p : Nat) (hp1 : 1 ≤ p) (hp : p ≤ 2047) :
  Calls Tryd.prog 60 #[.pointer (some ⟨g, 0, none⟩), .int .i64 (p : Int)] W fun e w' => e = .returned (.tuple #[.bool (dB d p), .int .i64 0]) ∧ DcS gv g (dN d p) w' ∧ Kp (fun i => i = g) W w' := by
 have hne := h.ne
 obtain ⟨h1, h4, h5⟩ := h
 refine (Bit_d g d p W h4 h5 hp1 hp).mono ?_
 rintro e w' ⟨rfl, hS, hG⟩
 have hk : Kp (fun i => i = g) W w' := Kp.grown hG (fun k hk => by injection hk with hk; exact hk.symm)
 exact ⟨rfl, ⟨hk.at_ h1 hne, hS, dN_ok h5 (by omega)⟩, hk⟩
end Go.Proofs.YtdifgiceallpiaaDoor.Hd
/- bittree's closures, walked by hand. -/
namespace Go.Proofs.YtdifgiceallpiaaDoor.Hd
open Go Go.RowKit YtdifgiceallpiaaDoorW.PrintWords YtdifgiceallpiaaDoorW.PrintLast YtdifgiceallpiaaDoorW.PrintMore YtdifgiceallpiaaDoor.Hw YtdifgiceallpiaaDoor.Com YtdifgiceallpiaaDoor.Rn YtdifgiceallpiaaDoor.P
attribute [local go_sem] za9 za8 zbi zbj za0 za1 zba zbb
set_option maxHeartbeats 8000000 in
set_option maxRecDepth 100000 in
theorem tellE_calls (x k : Nat) (p : Int) (base : Nat) (X : Nat → Prop) (gx gb gp : Nat) (bl : List Bool) (pl : List Int) (w : World) (hx : x < 9223372036854775808) (hk : k ≤ 62) (hE : EncS (.int .i64 (x : Int)) 3 base X gx gb gp bl pl w) (hb : bl.length ≤ 4294967296) (hp : pl.length ≤ 4294967296) :
  Calls Tryd.prog 27 #[.int .i64 p, .int .i64 (k : Int), .pointer (some ⟨gx, 0, none⟩), .pointer (some ⟨gb, 0, none⟩), .pointer (some ⟨gp, 0, none⟩)] w fun e w' => e = .returned (.bool (bitOf x k)) ∧ EncS (.int .i64 (x : Int)) 3 base X gx gb gp (bl ++ [bitOf x k]) (pl ++ [p]) w' ∧ Kp (fun i => base ≤ i ∧ ¬ X i) w w' := by
 obtain ⟨hgx, hXx, hGB, hGP, vb, vp, J⟩ := hE
 have HX := zaa.mk hXx
 have HGX := zaa.mk hgx
 have HGB := zaa.mk hGB
 have HGP := zaa.mk hGP
 have HLB := zaa.mk hb
 have HLP := zaa.mk hp
 have J0 := zaa.mk (show NJ w base X gb gp vb vp vb vp bl pl w.drew from J.below (zbl (Below.refl _ _)))
 have hcx := (zah hgx 0).trans (rfl : _ = some (Value.int .i64 (x : Int)))
 have hcb := (zah J.hb 0).trans (rfl : _ = some vb)
 have hcp := (zah J.hp 0).trans (rfl : _ = some vp)
 obtain ⟨bit, hbit⟩ : ∃ b, bitOf x k = b := ⟨_, rfl⟩
 obtain ⟨DD, hDD⟩ : ∃ DD : Int, (x : Int) / 2 ^ ((k : Int)).toNat = DD := ⟨_, rfl⟩
 have hsh : Op.shift BinOp.shr IntKind.i64 (x : Int) IntKind.i64 (k : Int) = pure (.int .i64 DD) := by
  rw [← hDD]
  exact shift_shr .i64 .i64 (x : Int) _ (by omega) (by simp [IntKind.bits]; omega)
 have hbt : (Go.bits .and .i64 DD 1 == 1) = bit := by
  rw [← hDD, Int.toNat_natCast, ← hbit]
  exact bit_and x k hx
 rw [hbit]
 clear hgx hXx hGB hGP J hx hk hb hp hbit hDD
 go_enter Tryd.func27, Tryd.ntmps27
 go_wp2
 refine zcr (n := 10) (S := fun w' => w'.cell? ⟨gb, 0, none⟩ = some vb ∧ w'.cell? ⟨gp, 0, none⟩ = some vp) (ds := [8, 9]) #[false, false, false, false, false, false, false, false, false, false] (by kernel_rfl) rfl rfl ⟨hcb, hcp⟩ (fun hHeld => ?_)
 refine pure_ (i := 1) (N := some 15) (v := ?_) (a' := ?_) #[false, true, false, false, false, false, false, false, false, false] rfl rfl (by kernel_rfl) (fun _ _ _ h => h) (Or.inl ⟨by rfl, ?_⟩) ?_ ?_
 rotate_left
 ·intro w'
  go_simp
  with_reducible rfl
 rotate_left
 ·simp only [Act.put, sAt, sZr, sSc, i64_w, i32_w]
  rfl
 refine pure_ (i := 5) (N := some 19) (v := ?_) (a' := ?_) #[false, true, false, false, false, true, false, false, false, false] rfl rfl (by kernel_rfl) (fun _ _ _ h => h) (Or.inl ⟨by rfl, ?_⟩) ?_ ?_
 rotate_left
 ·intro w'
  go_simp
  with_reducible rfl
 rotate_left
 ·simp only [Act.put, sAt, sZr, sSc, i64_w, i32_w]
  rfl
 refine take_ (i := 0) (N := some 14) (v := ?_) (a' := ?_) #[true, true, false, false, false, true, false, false, false, false] rfl rfl (by kernel_rfl) (fun _ _ _ h => h) (Or.inl ⟨by rfl, ?_⟩) hHeld ?_ ?_
 rotate_left
 ·rintro w' ⟨s0, s1⟩
  go_simp
  with_reducible rfl
 rotate_left
 ·simp only [Act.put, sAt, sZr, sSc, i64_w, i32_w]
  rfl
 refine take_ (i := 4) (N := some 18) (v := ?_) (a' := ?_) #[true, true, false, false, true, true, false, false, false, false] rfl rfl (by kernel_rfl) (fun _ _ _ h => h) (Or.inl ⟨by rfl, ?_⟩) hHeld ?_ ?_
 rotate_left
 ·rintro w' ⟨s0, s1⟩
  go_simp
  with_reducible rfl
 rotate_left
 ·simp only [Act.put, sAt, sZr, sSc, i64_w, i32_w]
  rfl
 refine join_ (σ := Nat × Nat × Value) 3 #[true, true, true, true, true, true, true, false, false, false] (fun s => [(16, .slice (some ⟨s.1, 0, none⟩) 1 1), (17, s.2.2), (20, .slice (some ⟨s.2.1, 0, none⟩) 1 1)]) (fun s w' => NJ w base X gb gp vb vp s.2.2 vp (bl ++ [bit]) pl w' ∧ w'.heap[s.2.1]? = some (.cells #[.int .i64 p] 3 (0, 0))) ?_ ?_
 rotate_left
 ·intro hCont
  refine two_ (i := 2) (j := 6) (Ni := some 16) (Nj := some 20) #[true, true, true, false, true, true, false, false, false, false] #[true, true, false, false, true, true, true, false, false, false] rfl rfl rfl rfl (by kernel_rfl) (by decide) (by decide) (fun K hK => ?_) (fun K hK => ?_)
  ·skip
   refine lit_step (cs := #[.bool bit]) (e := 4) (n := 1) (by rfl) rfl ?_ ?_
   ·first | (go_simp; done) | (go_simp; rfl)
   intro kA wA ekA hA hbA
   have JA := J0.out.below hbA
   refine hK.out _ _ ⟨((zah JA.hb 0).trans rfl), ((zah JA.hp 0).trans rfl)⟩ (fun hHeld => ?_)
   clear hK K
   refine norm_ (a' := ?_) ?_ ?_
   rotate_left
   ·show Act.put _ (some 16) _ = _
    simp only [Act.put, sAt, sZr, sSc, i64_w, i32_w]
    rfl
   refine two_ (i := 3) (j := 6) (Ni := some 17) (Nj := some 20) #[true, true, true, true, true, true, false, false, false, false] #[true, true, true, false, true, true, true, false, false, false] rfl rfl rfl rfl (by kernel_rfl) (by decide) (by decide) (fun K hK => ?_) (fun K hK => ?_)
   ·skip
    refine Kd.R_append_rows_step Kd.bool (w0 := wA) (W := wA) base (by rfl) (.tmp 14) (.tmp 16) 55 4 (.bool false) 1 rfl Tryd.underlying55 infoB rfl (by decide) (by decide) vb bl [bit] (some ⟨kA, 0, none⟩) 1 1 (fun k => ¬ X k) (fun _ => False) rfl rfl JA.rb (one_at hA) (fun _ _ h => h) (fun _ h => h.elim) JA.fresh (Below.refl _ _) JA.bs (by have := HLB.out; omega) ?_
    intro v5 w5 ho5 hb5 hg5 ha5
    have J5 := JA.appB ho5 hg5
    refine hK.out _ _ ⟨((zah J5.hb 0).trans rfl), ((zah J5.hp 0).trans rfl)⟩ (fun hHeld => ?_)
    clear hK K
    refine norm_ (a' := ?_) ?_ ?_
    rotate_left
    ·show Act.put _ (some 17) _ = _
     simp only [Act.put, sAt, sZr, sSc, i64_w, i32_w]
     rfl
    refine one_ (i := 6) (N := some 20) #[true, true, true, true, true, true, true, false, false, false] rfl rfl (by kernel_rfl) (by decide) (fun K hK => ?_)
    refine lit_step (cs := #[.int .i64 p]) (e := 3) (n := 1) (by rfl) rfl ?_ ?_
    ·first | (go_simp; done) | (go_simp; rfl)
    intro kB wB ekB hB hbB
    have JB := J5.below hbB
    refine hK.out _ _ ⟨((zah JB.hb 0).trans rfl), ((zah JB.hp 0).trans rfl)⟩ (fun hHeld => ?_)
    clear hK K
    refine norm_ (a' := ?_) ?_ ?_
    rotate_left
    ·show Act.put _ (some 20) _ = _
     simp only [Act.put, sAt, sZr, sSc, i64_w, i32_w]
     rfl
    exact norm_ (by simp only [putAll, Act.put, sAt, sZr, sSc]) (hCont (kA, kB, v5) _ ⟨JB, hB⟩)
   ·skip
    refine lit_step (cs := #[.int .i64 p]) (e := 3) (n := 1) (by rfl) rfl ?_ ?_
    ·first | (go_simp; done) | (go_simp; rfl)
    intro kB wB ekB hB hbB
    have JB := JA.below hbB
    have hA := za6 hA hbB
    refine hK.out _ _ ⟨((zah JB.hb 0).trans rfl), ((zah JB.hp 0).trans rfl)⟩ (fun hHeld => ?_)
    clear hK K
    refine norm_ (a' := ?_) ?_ ?_
    rotate_left
    ·show Act.put _ (some 20) _ = _
     simp only [Act.put, sAt, sZr, sSc, i64_w, i32_w]
     rfl
    refine one_ (i := 3) (N := some 17) #[true, true, true, true, true, true, true, false, false, false] rfl rfl (by kernel_rfl) (by decide) (fun K hK => ?_)
    refine Kd.R_append_rows_step Kd.bool (w0 := wB) (W := wB) base (by rfl) (.tmp 14) (.tmp 16) 55 4 (.bool false) 1 rfl Tryd.underlying55 infoB rfl (by decide) (by decide) vb bl [bit] (some ⟨kA, 0, none⟩) 1 1 (fun k => ¬ X k) (fun _ => False) rfl rfl JB.rb (one_at hA) (fun _ _ h => h) (fun _ h => h.elim) JB.fresh (Below.refl _ _) JB.bs (by have := HLB.out; omega) ?_
    intro v5 w5 ho5 hb5 hg5 ha5
    have J5 := JB.appB ho5 hg5
    have hB := zby hB hg5 (Kd.R_ne JB.rb hB (by decide))
    refine hK.out _ _ ⟨((zah J5.hb 0).trans rfl), ((zah J5.hp 0).trans rfl)⟩ (fun hHeld => ?_)
    clear hK K
    refine norm_ (a' := ?_) ?_ ?_
    rotate_left
    ·show Act.put _ (some 17) _ = _
     simp only [Act.put, sAt, sZr, sSc, i64_w, i32_w]
     rfl
    exact norm_ (by simp only [putAll, Act.put, sAt, sZr, sSc]) (hCont (kA, kB, v5) _ ⟨J5, hB⟩)
  ·skip
   refine lit_step (cs := #[.int .i64 p]) (e := 3) (n := 1) (by rfl) rfl ?_ ?_
   ·first | (go_simp; done) | (go_simp; rfl)
   intro kB wB ekB hB hbB
   have JB := J0.out.below hbB
   refine hK.out _ _ ⟨((zah JB.hb 0).trans rfl), ((zah JB.hp 0).trans rfl)⟩ (fun hHeld => ?_)
   clear hK K
   refine norm_ (a' := ?_) ?_ ?_
   rotate_left
   ·show Act.put _ (some 20) _ = _
    simp only [Act.put, sAt, sZr, sSc, i64_w, i32_w]
    rfl
   refine one_ (i := 2) (N := some 16) #[true, true, true, false, true, true, true, false, false, false] rfl rfl (by kernel_rfl) (by decide) (fun K hK => ?_)
   refine lit_step (cs := #[.bool bit]) (e := 4) (n := 1) (by rfl) rfl ?_ ?_
   ·first | (go_simp; done) | (go_simp; rfl)
   intro kA wA ekA hA hbA
   have JA := JB.below hbA
   have hB := za6 hB hbA
   refine hK.out _ _ ⟨((zah JA.hb 0).trans rfl), ((zah JA.hp 0).trans rfl)⟩ (fun hHeld => ?_)
   clear hK K
   refine norm_ (a' := ?_) ?_ ?_
   rotate_left
   ·show Act.put _ (some 16) _ = _
    simp only [Act.put, sAt, sZr, sSc, i64_w, i32_w]
    rfl
   refine one_ (i := 3) (N := some 17) #[true, true, true, true, true, true, true, false, false, false] rfl rfl (by kernel_rfl) (by decide) (fun K hK => ?_)
   refine Kd.R_append_rows_step Kd.bool (w0 := wA) (W := wA) base (by rfl) (.tmp 14) (.tmp 16) 55 4 (.bool false) 1 rfl Tryd.underlying55 infoB rfl (by decide) (by decide) vb bl [bit] (some ⟨kA, 0, none⟩) 1 1 (fun k => ¬ X k) (fun _ => False) rfl rfl JA.rb (one_at hA) (fun _ _ h => h) (fun _ h => h.elim) JA.fresh (Below.refl _ _) JA.bs (by have := HLB.out; omega) ?_
   intro v5 w5 ho5 hb5 hg5 ha5
   have J5 := JA.appB ho5 hg5
   have hB := zby hB hg5 (Kd.R_ne JA.rb hB (by decide))
   refine hK.out _ _ ⟨((zah J5.hb 0).trans rfl), ((zah J5.hp 0).trans rfl)⟩ (fun hHeld => ?_)
   clear hK K
   refine norm_ (a' := ?_) ?_ ?_
   rotate_left
   ·show Act.put _ (some 17) _ = _
    simp only [Act.put, sAt, sZr, sSc, i64_w, i32_w]
    rfl
   exact norm_ (by simp only [putAll, Act.put, sAt, sZr, sSc]) (hCont (kA, kB, v5) _ ⟨J5, hB⟩)
 rintro ⟨kA, kB, v5⟩ wJ ⟨J9, hB9⟩
 obtain ⟨n5, A5, c5, e5⟩ : ∃ n A c, v5 = .slice A n c := by
  obtain ⟨A, c, h⟩ := Kd.R_slice J9.rb
  exact ⟨_, A, c, h⟩
 subst e5
 have hHeld : wJ.cell? ⟨gb, 0, none⟩ = some vb ∧ wJ.cell? ⟨gp, 0, none⟩ = some vp := ⟨(zah J9.hb 0).trans rfl, (zah J9.hp 0).trans rfl⟩
 refine norm_ (a' := ?_) ?_ ?_
 rotate_left
 ·simp only [putAll, Act.put, sAt, sZr, sSc]
  rfl
 refine one_ (i := 7) (N := some 21) #[true, true, true, true, true, true, true, true, false, false] rfl rfl (by kernel_rfl) (by decide) (fun K hK => ?_)
 refine Kd.R_append_rows_step (Kd.int .i64) (w0 := wJ) (W := wJ) base (by rfl) (.tmp 18) (.tmp 20) 29 3 (.int .i64 0) 8 rfl Tryd.underlying29 info3t rfl (by decide) (by decide) vp pl [p] (some ⟨kB, 0, none⟩) 1 1 (fun k => ¬ X k) (fun _ => False) rfl rfl J9.rp (one_at hB9) (fun _ _ h => h) (fun _ h => h.elim) J9.fresh (Below.refl _ _) J9.bs (by have := HLP.out; omega) ?_
 intro v7 w7 ho7 hb7 hg7 ha7
 obtain ⟨n7, A7, c7, e7⟩ : ∃ n A c, v7 = .slice A n c := by
  obtain ⟨A, c, h⟩ := Kd.R_slice ho7
  exact ⟨_, A, c, h⟩
 subst e7
 have J7 := J9.appP ho7 hg7
 refine hK.out _ _ ⟨((zah J7.hb 0).trans rfl), ((zah J7.hp 0).trans rfl)⟩ (fun hHeld => ?_)
 clear hK K
 refine norm_ (a' := ?_) ?_ ?_
 rotate_left
 ·show Act.put _ (some 21) _ = _
  simp only [Act.put, sAt, sZr, sSc, i64_w, i32_w]
  rfl
 refine last_ (i := 8) (N := none) #[true, true, true, true, true, true, true, true, true, false] rfl rfl (by kernel_rfl) (by decide) (fun K hK => ?_)
 have hc8 := (zah J7.hb 0).trans (rfl : _ = some vb)
 have hf8 := zao J7.hb 0
 refine skip_ (w1 := ?_) (by rfl) rfl ?_ ?_
 rotate_left
 ·go_simp
  rfl
 have J8 := J7.setB HGB.out (.slice A5 n5 c5)
 refine hK.out _ _ ?_
 clear hK K
 refine last_ (i := 9) (N := none) #[true, true, true, true, true, true, true, true, true, true] rfl rfl (by kernel_rfl) (by decide) (fun K hK => ?_)
 have hc9 := (zah J8.hp 0).trans (rfl : _ = some vp)
 have hf9 := zao J8.hp 0
 refine skip_ (w1 := ?_) (by rfl) rfl ?_ ?_
 rotate_left
 ·go_simp
  rfl
 refine hK.out _ _ ?_
 clear hK K
 refine done_ (by kernel_rfl) ?_
 have J10 := J8.setP HGP.out (.slice A7 n7 c7)
 clear hcx hcb hcp hc8 hf8 hc9 hf9 hHeld
 go_wp2
 go_ret
 exact ⟨rfl, ⟨J10.kp.at_ HGX.out (fun e => e.2 HX.out), HX.out, HGB.out, HGP.out, _, _, J10.hb, J10.hp, J10.rb, J10.rp, Kp.refl _ _, J10.fx, J10.bs⟩, J10.kp⟩
set_option maxHeartbeats 4000000 in
set_option maxRecDepth 100000 in
theorem tellD_calls (p : Nat) (k : Int) (gv g : Nat) (d : Ds) (w : World) (hE : DcS gv g d w) (hp1 : 1 ≤ p) (hp : p ≤ 2047) :
  Calls Tryd.prog 59 #[.int .i64 (p : Int), .int .i64 k, .pointer (some ⟨gv, 0, none⟩)] w fun e w' => e = .returned (.bool (dB d p)) ∧ DcS gv g (dN d p) w' ∧ Kp (fun i => i = g) w w' := by
 have HE := zaa.mk hE
 have HP := zaa.mk (And.intro hp1 hp)
 have hc := (zah hE.1 0).trans (rfl : _ = some (Value.pointer (some ⟨g, 0, none⟩)))
 clear hE hp1 hp
 go_enter Tryd.func59, Tryd.ntmps59
 go_wp2_with (first
  | (go_at_call 60; (with_reducible refine (DcS.bit HE.out p HP.out.1 HP.out.2).mono ?_); rintro e w1 ⟨rfl, hD, hK⟩; have D1 := zaa.mk hD; have K1 := zaa.mk hK; clear hD hK))
 go_ret
 exact ⟨rfl, D1.out, K1.out⟩
end Go.Proofs.YtdifgiceallpiaaDoor.Hd
/- Chances that adapt, along a number's bits. -/
namespace Go.Proofs.YtdifgiceallpiaaDoor.Hd
open Go Go.RowKit YtdifgiceallpiaaDoorW.PrintWords YtdifgiceallpiaaDoorW.PrintLast YtdifgiceallpiaaDoorW.PrintMore YtdifgiceallpiaaDoor.Hw YtdifgiceallpiaaDoor.Com YtdifgiceallpiaaDoor.Rn YtdifgiceallpiaaDoor.P
theorem drawn_heap {w w1 : World} (h : za3 w w1) (i : Nat) : w1.heap[i]? = w.heap[i]? := by
 obtain ⟨n, rfl⟩ := h.out
 rfl
theorem drawn_size {w w1 : World} (h : za3 w w1) : w1.heap.size = w.heap.size := by
 obtain ⟨n, rfl⟩ := h.out
 rfl
def upd (p : Int) (b : Bool) : Int := if b then p - p / 32 else p + (2048 - p) / 32
theorem upd_f (p : Int) (b : Bool) (h1 : 1 ≤ p) (h2 : p ≤ 2047) : zbw.f 1 p b = some (upd p b, 0) := by
 unfold zbw.f
 rw [if_neg (by omega), decide_eq_false (by omega)]
 simp only [zbw.j0]
 cases b with
 | false => simp [upd]; rw [w64 (x := 2048 - p) (by omega) (by omega), w64 (by omega) (by omega)]
 | true => simp [upd]; rw [w64 (by omega) (by omega)]
theorem upd_in {p : Int} {b : Bool} (h1 : 31 ≤ p) (h2 : p ≤ 2017) : 31 ≤ upd p b ∧ upd p b ≤ 2017 := by
 unfold upd
 cases b
 ·simp; omega
 ·simp; omega
def wk {σ : Type} (tell : σ → Int → Nat → Bool × σ) : Nat → σ → Nat → List Int → Nat × σ × List Int
 | 0, s, A, ch => (A, s, ch)
 | k + 1, s, A, ch => wk tell k (tell s (ch.getD A 0) k).2 (2 * A + if (tell s (ch.getD A 0) k).1 then 1 else 0) (ch.set A (upd (ch.getD A 0) (tell s (ch.getD A 0) k).1))
theorem or_one (A : Nat) (h : A ≤ 1024) : Go.bits .or .i64 ((A : Int) * 2) 1 = ((2 * A + 1 : Nat) : Int) := by
 have e : ((A : Int) * 2) = ((A * 2 : Nat) : Int) := by omega
 rw [e, show (1 : Int) = ((1 : Nat) : Int) from rfl, (bits_i64 (A * 2) 1 (by omega) (by omega)).2, or_join (A * 2) 1 1 (by omega) (by omega)]
 omega
def FineC (ch : List Int) : Prop := ∀ x ∈ ch, 31 ≤ x ∧ x ≤ 2017
theorem FineC.set {ch : List Int} (h : FineC ch) (i : Nat) {x : Int} (hx : 31 ≤ x ∧ x ≤ 2017) : FineC (ch.set i x) := by
 intro y hy
 rcases List.mem_or_eq_of_mem_set hy with h1 | h1
 ·exact h y h1
 ·rw [h1]; exact hx
theorem FineC.at_ {ch : List Int} (h : FineC ch) {i : Nat} (hi : i < ch.length) : 31 ≤ ch.getD i 0 ∧ ch.getD i 0 ≤ 2017 := by
 rw [List.getD_eq_getElem?_getD, List.getElem?_eq_getElem hi]
 exact h _ (List.getElem_mem hi)
def tellE (x : Nat) (s : List Bool × List Int) (p : Int) (k : Nat) : Bool × (List Bool × List Int) := (bitOf x k, (s.1 ++ [bitOf x k], s.2 ++ [p]))
theorem wk_len (x k : Nat) : ∀ (s : List Bool × List Int) (A : Nat) (ch : List Int), (wk (tellE x) k s A ch).2.1.1.length = s.1.length + k ∧ (wk (tellE x) k s A ch).2.1.2.length = s.2.length + k := by
 induction k with
 | zero => intro s A ch; exact ⟨rfl, rfl⟩
 | succ k ih =>
  intro s A ch
  rw [wk]
  have h := ih (tellE x s (ch.getD A 0) k).2 (2 * A + if (tellE x s (ch.getD A 0) k).1 then 1 else 0) (ch.set A (upd (ch.getD A 0) (tellE x s (ch.getD A 0) k).1))
  rw [h.1, h.2]
  simp [tellE]; omega
def tellD (d : Ds) (p : Int) (_ : Nat) : Bool × Ds := (dB d p.toNat, dN d p.toNat)
end Go.Proofs.YtdifgiceallpiaaDoor.Hd
/- bittree's tree: made, and walked along by whatever tells the bits; by hand. -/
namespace Go.Proofs.YtdifgiceallpiaaDoor.Hd
open Go Go.RowKit YtdifgiceallpiaaDoorW.PrintWords YtdifgiceallpiaaDoorW.PrintLast YtdifgiceallpiaaDoorW.PrintMore YtdifgiceallpiaaDoor.Hw YtdifgiceallpiaaDoor.Com YtdifgiceallpiaaDoor.Rn YtdifgiceallpiaaDoor.P
attribute [local go_sem] za9 za8 zbi zbj za0 za1 zba zbb
def TreeA (W : World) (gt gc n M f : Nat) (cap : Array Value) : Prop := W.heap[gt]? = some (.cells #[.int .i64 (n : Int), .slice (some ⟨gc, 0, none⟩) M M, .func (.func f) #[] cap] 88 (0, 0))
def TreeS (W : World) (gt gc n M f : Nat) (cap : Array Value) (ch : List Int) : Prop := TreeA W gt gc n M f cap ∧ Blk W gc .i64 3 ch
section
variable {W W1 : World} {gt gc n M f : Nat} {cap : Array Value} {ch : List Int}
theorem TreeA.cell0 (h : TreeA W gt gc n M f cap) : W.cell? ⟨gt, 0, none⟩ = some (.int .i64 (n : Int)) := (zah h 0).trans rfl
theorem TreeA.cell1 (h : TreeA W gt gc n M f cap) : W.cell? ⟨gt, 1, none⟩ = some (.slice (some ⟨gc, 0, none⟩) M M) := (zah h 1).trans rfl
theorem TreeA.cell2 (h : TreeA W gt gc n M f cap) : W.cell? ⟨gt, 2, none⟩ = some (.func (.func f) #[] cap) := (zah h 2).trans rfl
theorem TreeS.below (h : TreeS W gt gc n M f cap ch) (b : Below W.heap.size W W1) : TreeS W1 gt gc n M f cap ch := ⟨za6 h.1 b, h.2.below b⟩
theorem TreeS.kp {S : Nat → Prop} (h : TreeS W gt gc n M f cap ch) (k : Kp S W W1) (h1 : ¬ S gt) (h2 : ¬ S gc) : TreeS W1 gt gc n M f cap ch := ⟨k.at_ h.1 h1, k.at_ h.2 h2⟩
theorem TreeS.put (h : TreeS W gt gc n M f cap ch) (i : Nat) (x : Int) : TreeS (W.setCell ⟨gc, i, none⟩ (.int .i64 x)) gt gc n M f cap (ch.set i x) := ⟨zbo (p := ⟨gc, i, none⟩) h.1 (zb9 h.1 h.2 (by decide)) _, h.2.put i x⟩
end
set_option maxHeartbeats 8000000 in
set_option maxRecDepth 100000 in
theorem fresh_calls (n f : Nat) (cap : Array Value) (w : World) (hn : 1 ≤ n) (hn9 : n ≤ 9) :
  Calls Tryd.prog 26 #[.int .i64 (n : Int), .func (.func f) #[] cap] w fun e w' => ∃ gt gc : Nat, e = .returned (.pointer (some ⟨gt, 0, none⟩)) ∧ TreeS w' gt gc n (2 ^ n) f cap (List.replicate (2 ^ n) 1024) ∧ w.heap.size ≤ gt ∧ w.heap.size ≤ gc ∧ Below w.heap.size w w' := by
 have hsh : Op.shift BinOp.shl IntKind.i64 1 IntKind.i64 (n : Int) = pure (.int .i64 ((2 ^ n : Nat) : Int)) := by
  have : ∀ m : Nat, m ≤ 9 → IntKind.i64.wrap (1 * 2 ^ m) = ((2 ^ m : Nat) : Int) := by decide +kernel
  rw [shift_shl .i64 .i64 1 _ (by omega) (by simp [IntKind.bits]; omega), Int.toNat_natCast, this n hn9]
 obtain ⟨M, hM⟩ : ∃ M, 2 ^ n = M := ⟨_, rfl⟩
 have HM := zaa.mk (show 1 ≤ M ∧ M ≤ 512 by
  have : ∀ m : Nat, m ≤ 9 → 1 ≤ 2 ^ m ∧ 2 ^ m ≤ 512 := by decide
  rw [← hM]; exact this n hn9)
 rw [hM] at hsh
 rw [hM]
 have p1 : (0 ≤ (n : Int)) = True := eq_true (by omega)
 clear hM hn hn9
 go_enter Tryd.func26, Tryd.ntmps26
 go_wp2_with (first
  | ((with_reducible refine zay (N := 10) rfl ?_); refine zce rfl rfl M rfl rfl Tryd.underlying29 .i64 info3t (by decide) (by have := HM.out; omega) ?_; intro gc w1 G1 K1 B1)
  | ((with_reducible refine zay (N := 13) rfl ?_); refine zcq ?hg (N := 13) ?hd (cs := #[.int .i64 (n : Int), .slice (some ⟨gc, 0, none⟩) M M, .func (.func f) #[] cap]) (t := 88) ?hr ?_; (case hd => rfl); (case hg => rfl); (case hr => first | (go_simp; done) | (go_simp; rfl)); intro gt hgt w2 hx2 hB2; have B2 := zaa.mk (zaf B1.out hB2); have T2 := zaa.mk (show TreeS w2 gt gc n M f cap (List.replicate M 0) from ⟨hx2, K1.out.below hB2⟩); have G2 := zaa.mk (show w.heap.size ≤ gt by rw [hgt]; exact B1.out.size); have hc1 := T2.out.1.cell1; clear hgt hx2 hB2))
 clear hc1
 go_loopg [19] M (fun q v19 w' => ∃ (L : Int) (m : Nat), v19 = .int .i64 L ∧ zaa (L = (m : Int) ∧ m + q = M) ∧ zaa (TreeS w' gt gc n M f cap (List.replicate m 1024 ++ List.replicate q 0)) ∧ zaa (Below w.heap.size w w'))
 case atStart => exact ⟨0, 0, rfl, ⟨rfl, by omega⟩, T2, B2⟩
 case round =>
  clear T2 B2 B1 K1
  obtain ⟨L, m, rfl, HA, T4, B4⟩ := hrel
  cases gk with
  | zero =>
   have t1 : decide (L < (M : Int)) = false := decide_eq_false (by have := HA.out; omega)
   have em : m = M := by have := HA.out; omega
   subst em
   go_wp2
   go_ret
   have hT := T4.out
   rw [List.replicate_zero, List.append_nil] at hT
   exact ⟨gt, gc, rfl, hT, G2.out, G1.out, B4.out⟩
  | succ q =>
   have t1 : decide (L < (M : Int)) = true := decide_eq_true (by have := HA.out; omega)
   have q1 : (0 ≤ L) = True := eq_true (by have := HA.out; omega)
   have q2 : (L < (M : Int)) = True := eq_true (by have := HA.out; omega)
   go_wp2
   refine zcr (n := 8) (S := fun w' => w'.cell? ⟨gt, 1, none⟩ = some (.slice (some ⟨gc, 0, none⟩) M M)) (ds := [7]) #[false, false, false, false, false, false, false, false] (by kernel_rfl) rfl rfl ((T4.out.1.cell1)) (fun hHeld => ?_)
   refine pure_ (i := 0) (N := some 22) (v := ?_) (a' := ?_) #[true, false, false, false, false, false, false, false] rfl rfl (by kernel_rfl) (fun _ _ _ h => h) (Or.inl ⟨by rfl, ?_⟩) ?_ ?_
   rotate_left
   ·intro w'
    go_simp
    with_reducible rfl
   rotate_left
   ·simp only [Act.put, sAt, sZr, sSc, i64_w, i32_w]
    rfl
   refine pure_ (i := 1) (N := some 23) (v := ?_) (a' := ?_) #[true, true, false, false, false, false, false, false] rfl rfl (by kernel_rfl) (fun _ _ _ h => h) (Or.inl ⟨by rfl, ?_⟩) ?_ ?_
   rotate_left
   ·intro w'
    go_simp
    with_reducible rfl
   rotate_left
   ·simp only [Act.put, sAt, sZr, sSc, i64_w, i32_w]
    rfl
   refine pure_ (i := 2) (N := some 24) (v := ?_) (a' := ?_) #[true, true, true, false, false, false, false, false] rfl rfl (by kernel_rfl) (fun _ _ _ h => h) (Or.inl ⟨by rfl, ?_⟩) ?_ ?_
   rotate_left
   ·intro w'
    go_simp
    with_reducible rfl
   rotate_left
   ·simp only [Act.put, sAt, sZr, sSc, i64_w, i32_w]
    rfl
   refine pure_ (i := 4) (N := some 26) (v := ?_) (a' := ?_) #[true, true, true, false, true, false, false, false] rfl rfl (by kernel_rfl) (fun _ _ _ h => h) (Or.inl ⟨by rfl, ?_⟩) ?_ ?_
   rotate_left
   ·intro w'
    go_simp
    with_reducible rfl
   rotate_left
   ·simp only [Act.put, sAt, sZr, sSc, i64_w, i32_w]
    rfl
   refine take_ (i := 3) (N := some 25) (v := ?_) (a' := ?_) #[true, true, true, true, true, false, false, false] rfl rfl (by kernel_rfl) (fun _ _ _ h => h) (Or.inl ⟨by rfl, ?_⟩) hHeld ?_ ?_
   rotate_left
   ·intro w' s0
    go_simp
    with_reducible rfl
   rotate_left
   ·simp only [Act.put, sAt, sZr, sSc, i64_w, i32_w]
    rfl
   refine one_ (i := 5) (N := some 27) #[true, true, true, true, true, true, false, false] rfl rfl (by kernel_rfl) (by decide) (fun K hK => ?_)
   refine goes_ Tryd.func49 (by kernel_rfl) rfl #[] (by rfl) rfl rfl (by simp) ?_
   with_reducible refine (prob_Start.calls 1024 _ rfl).mono ?_
   rintro e w3 ⟨rfl, hd⟩
   refine ⟨_, rfl, ?_⟩
   have T5 := zaa.mk (T4.out.below (zaf (zbl (Below.refl _ _)) hd.below))
   have B5 := zaa.mk (zaf B4.out (zaf (zbl (Below.refl wr.heap.size wr)) hd.below))
   clear hd
   refine hK.out _ _ (T5.out.1.cell1) (fun hHeld => ?_)
   clear hK K
   refine norm_ (a' := ?_) ?_ ?_
   rotate_left
   ·show Act.put _ (some 27) _ = _
    simp only [Act.put, sAt, sZr, sSc, i64_w, i32_w]
    rfl
   refine pure_ (i := 6) (N := some 28) (v := ?_) (a' := ?_) #[true, true, true, true, true, true, true, false] rfl rfl (by kernel_rfl) (fun _ _ _ h => h) (Or.inl ⟨by rfl, ?_⟩) ?_ ?_
   rotate_left
   ·intro w'
    go_simp
    with_reducible rfl
   rotate_left
   ·simp only [Act.put, sAt, sZr, sSc, i64_w, i32_w]
    rfl
   refine last_ (i := 7) (N := none) #[true, true, true, true, true, true, true, true] rfl rfl (by kernel_rfl) (by decide) (fun K hK => ?_)
   have hc7 := T5.out.2.cell L.toNat (by have := HA.out; simp; omega)
   have hf7 := T5.out.2.free L.toNat
   refine skip_ (w1 := ?_) (by rfl) rfl ?_ ?_
   rotate_left
   ·go_simp
    rfl
   refine hK.out _ _ ?_
   clear hK K
   refine done_ (by kernel_rfl) ?_
   have T6 := zaa.mk (T5.out.put L.toNat 1024)
   have B6 := zaa.mk (B5.out.setCell (p := ⟨gc, L.toNat, none⟩) G1.out (.int .i64 1024))
   clear hc7 hf7 hHeld T5 B5
   go_wp2
   go_roundg q
   case measure => omega
   case rel =>
    refine ⟨wrap64 (L + 1), m + 1, rfl, ⟨?_, by have := HA.out; omega⟩, ⟨?_⟩, B6⟩
    ·have := HA.out; have := HM.out; rw [w64 (by omega) (by omega)]; omega
    ·have e : (List.replicate m (1024 : Int) ++ List.replicate (q + 1) 0).set L.toNat 1024 = List.replicate (m + 1) 1024 ++ List.replicate q 0 := by
      have eL : L.toNat = m := by have := HA.out; omega
      rw [eL, List.replicate_succ, List.set_append_right _ _ (by simp), List.length_replicate, Nat.sub_self, List.replicate_succ']
      simp [List.append_assoc]
     have h := T6.out
     rw [e] at h
     exact h
end Go.Proofs.YtdifgiceallpiaaDoor.Hd
/- bittree's tree, walked along by whatever tells the bits; by hand. -/
namespace Go.Proofs.YtdifgiceallpiaaDoor.Hd
open Go Go.RowKit YtdifgiceallpiaaDoorW.PrintWords YtdifgiceallpiaaDoorW.PrintLast YtdifgiceallpiaaDoorW.PrintMore YtdifgiceallpiaaDoor.Hw YtdifgiceallpiaaDoor.Com YtdifgiceallpiaaDoor.Rn YtdifgiceallpiaaDoor.P
attribute [local go_sem] za9 za8 zbi zbj za0 za1 zba zbb
set_option maxHeartbeats 8000000 in
set_option maxRecDepth 100000 in
theorem walk_calls {σ : Type} (tell : σ → Int → Nat → Bool × σ) (Inv : Nat → World → σ → Prop) (S : Nat → Prop) (gt gc n M f : Nat) (cap : Array Value) {fn : Func}
  (hf : Tryd.prog.funcs[f]? = some fn) (hname : (fn.name == "runtime.NumGoroutine") = false) (hb : fn.body.isSome = true)
  (hSt : ¬ S gt) (hSc : ¬ S gc)
  (hcall : ∀ s (p : Int) (k : Nat) w, Inv (k + 1) w s → 31 ≤ p → p ≤ 2017 → k ≤ 9 → Calls Tryd.prog f (#[.int .i64 p, .int .i64 (k : Int)] ++ cap) w fun e w' => e = .returned (.bool (tell s p k).1) ∧ Inv k w' (tell s p k).2 ∧ Kp S w w')
  (hfr : ∀ q s w w', Inv q w s → (∀ i, i ≠ gc → w'.heap[i]? = w.heap[i]?) → w'.heap.size = w.heap.size → Inv q w' s)
  (s : σ) (ch : List Int) (w : World) (hT : TreeS w gt gc n M f cap ch) (hI : Inv n w s) (hn : n ≤ 9) (hM : 2 ^ n = M) (hl : ch.length = M) (hF : FineC ch) :
  Calls Tryd.prog 28 #[.pointer (some ⟨gt, 0, none⟩)] w fun e w' => e = .returned (.int .i64 (((wk tell n s 1 ch).1 : Int) - (M : Int))) ∧ TreeS w' gt gc n M f cap (wk tell n s 1 ch).2.2 ∧ Inv 0 w' (wk tell n s 1 ch).2.1 ∧ Kp (fun i => S i ∨ i = gc) w w' ∧ (wk tell n s 1 ch).2.2.length = M ∧ FineC (wk tell n s 1 ch).2.2 ∧ M ≤ (wk tell n s 1 ch).1 ∧ (wk tell n s 1 ch).1 < 2 * M := by
 have hsh : Op.shift BinOp.shl IntKind.i64 1 IntKind.i64 (n : Int) = pure (.int .i64 (M : Int)) := by
  have : ∀ m : Nat, m ≤ 9 → IntKind.i64.wrap (1 * 2 ^ m) = ((2 ^ m : Nat) : Int) := by decide +kernel
  rw [shift_shl .i64 .i64 1 _ (by omega) (by simp [IntKind.bits]; omega), Int.toNat_natCast, this n hn, hM]
 have HM := zaa.mk (show 1 ≤ M ∧ M ≤ 512 by
  have : ∀ m : Nat, m ≤ 9 → 1 ≤ 2 ^ m ∧ 2 ^ m ≤ 512 := by decide
  rw [← hM]; exact this n hn)
 obtain ⟨tot, htot⟩ : ∃ t, wk tell n s 1 ch = t := ⟨_, rfl⟩
 have HT := zaa.mk hT
 have HI := zaa.mk hI
 have HN := zaa.mk (And.intro hn hM)
 have HA0 := zaa.mk (And.intro hl (And.intro hF htot))
 have HC := zaa.mk hcall
 have HFR := zaa.mk hfr
 have hc0 := hT.1.cell0
 have FT := zaa.mk (And.intro hSt hSc)
 have p0 : (0 ≤ (n : Int)) = True := eq_true (by omega)
 rw [htot]
 clear hT hI hn hM hl hF htot hcall hfr hSt hSc
 go_enter Tryd.func28, Tryd.ntmps28
 go_wp2
 have eN := zaa.mk (show wrap64 ((n : Int) - 1) = (n : Int) - 1 from w64 (by omega) (by have := HN.out; omega))
 go_loopg [3, 4] n (fun q v3 v4 w' => ∃ (A : Nat) (L : Int) (s' : σ) (ch' : List Int), v3 = .int .i64 (A : Int) ∧ v4 = .int .i64 L ∧ zaa (L = (q : Int) - 1 ∧ q ≤ n ∧ 2 ^ (n - q) ≤ A ∧ A < 2 * 2 ^ (n - q) ∧ ch'.length = M ∧ FineC ch' ∧ wk tell q s' A ch' = tot) ∧ zaa (TreeS w' gt gc n M f cap ch') ∧ zaa (Inv q w' s') ∧ zaa (Kp (fun i => S i ∨ i = gc) w w'))
 case atStart => exact ⟨1, (n : Int) - 1, s, ch, rfl, by rw [eN.out], ⟨rfl, Nat.le_refl _, by simp, by simp, HA0.out.1, HA0.out.2.1, HA0.out.2.2⟩, HT, HI, ⟨Kp.refl _ _⟩⟩
 case round =>
  clear HT HI HA0 hc0 eN
  obtain ⟨A, L, s', ch', rfl, rfl, HA, T, I, K⟩ := hrel
  cases gk with
  | zero =>
   have t1 : decide (0 ≤ L) = false := decide_eq_false (by have := HA.out.1; omega)
   have hc0 := T.out.1.cell0
   have E := zaa.mk HA.out.2.2.2.2.2.2
   have ES := zaa.mk (show wrap64 ((A : Int) - (M : Int)) = (A : Int) - (M : Int) by
    have h1 := HA.out.2.2.2.1; rw [Nat.sub_zero, HN.out.2] at h1
    have := HM.out
    exact w64 (by omega) (by omega))
   go_wp2
   go_ret
   rw [← E.out, ES.out]
   have h1 := HA.out.2.2.1; have h2 := HA.out.2.2.2.1
   rw [Nat.sub_zero, HN.out.2] at h1 h2
   exact ⟨rfl, T.out, I.out, K.out, HA.out.2.2.2.2.1, HA.out.2.2.2.2.2.1, h1, h2⟩
  | succ q =>
   have t1 : decide (0 ≤ L) = true := decide_eq_true (by have := HA.out.1; omega)
   have hA : A < M := by
    have h1 := HA.out.2.2.2.1
    have h2 := HA.out.2.1
    have h3 : 2 * 2 ^ (n - (q + 1)) ≤ 2 ^ n := by
     rw [← Nat.pow_succ']; exact Nat.pow_le_pow_right (by omega) (by omega)
    rw [HN.out.2] at h3
    omega
   have hAl : A < ch'.length := by rw [HA.out.2.2.2.2.1]; exact hA
   have hp := HA.out.2.2.2.2.2.1.at_ hAl
   obtain ⟨p, ep⟩ : ∃ p, ch'.getD A 0 = p := ⟨_, rfl⟩
   rw [ep] at hp
   have HL := zaa.mk HA.out.2.2.2.2.1
   have hE := HA.out.2.2.2.2.2.2
   rw [wk, ep] at hE
   obtain ⟨b, eb⟩ : ∃ b, (tell s' p q).1 = b := ⟨_, rfl⟩
   obtain ⟨s2, es2⟩ : ∃ s2, (tell s' p q).2 = s2 := ⟨_, rfl⟩
   rw [eb, es2] at hE
   have HE := zaa.mk hE
   have PA := zaa.mk (And.intro hA (And.intro ep hp))
   have UF := zaa.mk (upd_f p b (by omega) (by omega))
   have UI := zaa.mk (upd_in (b := b) hp.1 hp.2)
   have EB := zaa.mk (And.intro eb es2)
   have eL := zaa.mk (show L = (q : Int) by have := HA.out.1; omega)
   have hc1 := T.out.1.cell1
   have hc2 := T.out.1.cell2
   have hca := (T.out.2.cell A hAl).trans (show _ = some (Value.int .i64 p) by rw [ep])
   have q1 : (0 ≤ (A : Int)) = True := eq_true (by omega)
   have q2 : ((A : Int) < (M : Int)) = True := eq_true (by omega)
   have q3 : (A < M) = True := eq_true hA
   clear hA hAl hp ep hE eb es2
   go_wp2
   go_still_tail 12, (by kernel_rfl)
   change wpList _ _ _ _ _ wr.drew
   have T6 := zaa.mk (T.out.below (zbl (Below.refl _ _)))
   have I6 := zaa.mk (HFR.out _ _ _ wr.drew I.out (fun _ _ => rfl) rfl)
   have K6 := zaa.mk (K.out.drew)
   clear hc1 hc2 hca T I K
   refine goesV_ (some 27) rfl rfl hf hname hb rfl rfl (#[.int .i64 p, .int .i64 (q : Int)] ++ cap) ?_ ?_
   ·rw [← eL.out]; simp [go_sem]
   refine (HC.out s' p q _ I6.out PA.out.2.2.1 PA.out.2.2.2 (by have := HA.out.2.1; have := HN.out.1; omega)).mono ?_
   rintro e w7 ⟨rfl, hI7, hK7⟩
   rw [EB.out.2] at hI7
   refine ⟨_, rfl, ?_⟩
   rw [EB.out.1]
   have T7 := zaa.mk (T6.out.kp hK7 FT.out.1 FT.out.2)
   have I7 := zaa.mk hI7
   have K7 := zaa.mk (K6.out.trans (hK7.imp (fun _ _ h => Or.inl h)))
   clear hI7 hK7 T6 I6 K6
   go_wp2
   have hfr := HFR.out
   have hp7 := (T7.out.2.cell A (by rw [HL.out]; exact PA.out.1)).trans (show _ = some (Value.int .i64 p) by rw [PA.out.2.1])
   refine zcr (n := 19) (S := fun w' => w'.cell? ⟨gt, 1, none⟩ = some (.slice (some ⟨gc, 0, none⟩) M M) ∧ w'.cell? ⟨gc, A, none⟩ = some (.int .i64 p)) (ds := [18]) #[false, false, false, false, false, false, false, false, false, false, false, false, false, false, false, false, false, false, false] (by kernel_rfl) rfl rfl ⟨(T7.out.1.cell1), hp7⟩ (fun hHeld => ?_)
   refine pure_ (i := 0) (N := some 29) (v := ?_) (a' := ?_) #[true, false, false, false, false, false, false, false, false, false, false, false, false, false, false, false, false, false, false] rfl rfl (by kernel_rfl) (fun _ _ _ h => h) (Or.inl ⟨by rfl, ?_⟩) ?_ ?_
   rotate_left
   ·intro w'
    go_simp
    with_reducible rfl
   rotate_left
   ·simp only [Act.put, sAt, sZr, sSc, i64_w, i32_w]
    rfl
   refine pure_ (i := 1) (N := some 30) (v := ?_) (a' := ?_) #[true, true, false, false, false, false, false, false, false, false, false, false, false, false, false, false, false, false, false] rfl rfl (by kernel_rfl) (fun _ _ _ h => h) (Or.inl ⟨by rfl, ?_⟩) ?_ ?_
   rotate_left
   ·intro w'
    go_simp
    with_reducible rfl
   rotate_left
   ·simp only [Act.put, sAt, sZr, sSc, i64_w, i32_w]
    rfl
   refine pure_ (i := 2) (N := some 31) (v := ?_) (a' := ?_) #[true, true, true, false, false, false, false, false, false, false, false, false, false, false, false, false, false, false, false] rfl rfl (by kernel_rfl) (fun _ _ _ h => h) (Or.inl ⟨by rfl, ?_⟩) ?_ ?_
   rotate_left
   ·intro w'
    go_simp
    with_reducible rfl
   rotate_left
   ·simp only [Act.put, sAt, sZr, sSc, i64_w, i32_w]
    rfl
   refine pure_ (i := 4) (N := some 33) (v := ?_) (a' := ?_) #[true, true, true, false, true, false, false, false, false, false, false, false, false, false, false, false, false, false, false] rfl rfl (by kernel_rfl) (fun _ _ _ h => h) (Or.inl ⟨by rfl, ?_⟩) ?_ ?_
   rotate_left
   ·intro w'
    go_simp
    with_reducible rfl
   rotate_left
   ·simp only [Act.put, sAt, sZr, sSc, i64_w, i32_w]
    rfl
   refine pure_ (i := 5) (N := some 34) (v := ?_) (a' := ?_) #[true, true, true, false, true, true, false, false, false, false, false, false, false, false, false, false, false, false, false] rfl rfl (by kernel_rfl) (fun _ _ _ h => h) (Or.inl ⟨by rfl, ?_⟩) ?_ ?_
   rotate_left
   ·intro w'
    go_simp
    with_reducible rfl
   rotate_left
   ·simp only [Act.put, sAt, sZr, sSc, i64_w, i32_w]
    rfl
   refine pure_ (i := 6) (N := some 35) (v := ?_) (a' := ?_) #[true, true, true, false, true, true, true, false, false, false, false, false, false, false, false, false, false, false, false] rfl rfl (by kernel_rfl) (fun _ _ _ h => h) (Or.inl ⟨by rfl, ?_⟩) ?_ ?_
   rotate_left
   ·intro w'
    go_simp
    with_reducible rfl
   rotate_left
   ·simp only [Act.put, sAt, sZr, sSc, i64_w, i32_w]
    rfl
   refine pure_ (i := 7) (N := some 36) (v := ?_) (a' := ?_) #[true, true, true, false, true, true, true, true, false, false, false, false, false, false, false, false, false, false, false] rfl rfl (by kernel_rfl) (fun _ _ _ h => h) (Or.inl ⟨by rfl, ?_⟩) ?_ ?_
   rotate_left
   ·intro w'
    go_simp
    with_reducible rfl
   rotate_left
   ·simp only [Act.put, sAt, sZr, sSc, i64_w, i32_w]
    rfl
   refine pure_ (i := 9) (N := some 38) (v := ?_) (a' := ?_) #[true, true, true, false, true, true, true, true, false, true, false, false, false, false, false, false, false, false, false] rfl rfl (by kernel_rfl) (fun _ _ _ h => h) (Or.inl ⟨by rfl, ?_⟩) ?_ ?_
   rotate_left
   ·intro w'
    go_simp
    with_reducible rfl
   rotate_left
   ·simp only [Act.put, sAt, sZr, sSc, i64_w, i32_w]
    rfl
   refine pure_ (i := 12) (N := some 41) (v := ?_) (a' := ?_) #[true, true, true, false, true, true, true, true, false, true, false, false, true, false, false, false, false, false, false] rfl rfl (by kernel_rfl) (fun _ _ _ h => h) (Or.inl ⟨by rfl, ?_⟩) ?_ ?_
   rotate_left
   ·intro w'
    go_simp
    with_reducible rfl
   rotate_left
   ·simp only [Act.put, sAt, sZr, sSc, i64_w, i32_w]
    rfl
   refine take_ (i := 3) (N := some 32) (v := ?_) (a' := ?_) #[true, true, true, true, true, true, true, true, false, true, false, false, true, false, false, false, false, false, false] rfl rfl (by kernel_rfl) (fun _ _ _ h => h) (Or.inl ⟨by rfl, ?_⟩) hHeld ?_ ?_
   rotate_left
   ·rintro w' ⟨s0, s1⟩
    go_simp
    with_reducible rfl
   rotate_left
   ·simp only [Act.put, sAt, sZr, sSc, i64_w, i32_w]
    rfl
   refine take_ (i := 8) (N := some 37) (v := ?_) (a' := ?_) #[true, true, true, true, true, true, true, true, true, true, false, false, true, false, false, false, false, false, false] rfl rfl (by kernel_rfl) (fun _ _ _ h => h) (Or.inl ⟨by rfl, ?_⟩) hHeld ?_ ?_
   rotate_left
   ·rintro w' ⟨s0, s1⟩
    go_simp
    with_reducible rfl
   rotate_left
   ·simp only [Act.put, sAt, sZr, sSc, i64_w, i32_w]
    rfl
   refine pure_ (i := 10) (N := some 39) (v := ?_) (a' := ?_) #[true, true, true, true, true, true, true, true, true, true, true, false, true, false, false, false, false, false, false] rfl rfl (by kernel_rfl) (fun _ _ _ h => h) (Or.inl ⟨by rfl, ?_⟩) ?_ ?_
   rotate_left
   ·intro w'
    go_simp
    with_reducible rfl
   rotate_left
   ·simp only [Act.put, sAt, sZr, sSc, i64_w, i32_w]
    rfl
   refine take_ (i := 11) (N := some 40) (v := ?_) (a' := ?_) #[true, true, true, true, true, true, true, true, true, true, true, true, true, false, false, false, false, false, false] rfl rfl (by kernel_rfl) (fun _ _ _ h => h) (Or.inl ⟨by rfl, ?_⟩) hHeld ?_ ?_
   rotate_left
   ·rintro w' ⟨s0, s1⟩
    go_simp
    with_reducible rfl
   rotate_left
   ·simp only [Act.put, sAt, sZr, sSc, i64_w, i32_w]
    rfl
   refine one_ (i := 13) (N := some 42) #[true, true, true, true, true, true, true, true, true, true, true, true, true, true, false, false, false, false, false] rfl rfl (by kernel_rfl) (by decide) (fun K hK => ?_)
   refine goes_ Tryd.func50 (by kernel_rfl) rfl #[.int .i64 p, .bool b] (by rfl) rfl rfl (by simp only [List.map_toArray, List.map_cons, List.map_nil]; rfl) ?_
   with_reducible refine (zbw.calls 1 p b _ _ _ UF.out).mono ?_
   rintro e w3 ⟨rfl, hd⟩
   refine ⟨_, rfl, ?_⟩
   have T8 := zaa.mk (T7.out.below (zaf (zbl (Below.refl _ _)) hd.below))
   have K8 := zaa.mk ((K7.out.drew).trans (Kp.below (S := fun i => S i ∨ i = gc) hd.below))
   have I8 := zaa.mk (hfr _ _ _ _ I7.out (fun i _ => by have h := drawn_heap hd i; exact h) (by have h := drawn_size hd; exact h))
   have hp8 := (T8.out.2.cell A (by rw [HL.out]; exact PA.out.1)).trans (show _ = some (Value.int .i64 p) by rw [PA.out.2.1])
   clear hd
   refine hK.out _ _ ⟨T8.out.1.cell1, hp8⟩ (fun hHeld => ?_)
   clear hK K
   refine norm_ (a' := ?_) ?_ ?_
   rotate_left
   ·show Act.put _ (some 42) _ = _
    simp only [Act.put, sAt, sZr, sSc, i64_w, i32_w]
    rfl
   refine pure_ (i := 14) (N := some 28) (v := ?_) (a' := ?_) #[true, true, true, true, true, true, true, true, true, true, true, true, true, true, true, false, false, false, false] rfl rfl (by kernel_rfl) (fun _ _ _ h => h) (Or.inl ⟨by rfl, ?_⟩) ?_ ?_
   rotate_left
   ·intro w'
    go_simp
    with_reducible rfl
   rotate_left
   ·simp only [Act.put, sAt, sZr, sSc, i64_w, i32_w]
    rfl
   refine pure_ (i := 15) (N := some 43) (v := ?_) (a' := ?_) #[true, true, true, true, true, true, true, true, true, true, true, true, true, true, true, true, false, false, false] rfl rfl (by kernel_rfl) (fun _ _ _ h => h) (Or.inl ⟨by rfl, ?_⟩) ?_ ?_
   rotate_left
   ·intro w'
    go_simp
    with_reducible rfl
   rotate_left
   ·simp only [Act.put, sAt, sZr, sSc, i64_w, i32_w]
    rfl
   refine pure_ (i := 16) (N := some 44) (v := ?_) (a' := ?_) #[true, true, true, true, true, true, true, true, true, true, true, true, true, true, true, true, true, false, false] rfl rfl (by kernel_rfl) (fun _ _ _ h => h) (Or.inl ⟨by rfl, ?_⟩) ?_ ?_
   rotate_left
   ·intro w'
    go_simp
    with_reducible rfl
   rotate_left
   ·simp only [Act.put, sAt, sZr, sSc, i64_w, i32_w]
    rfl
   refine pure_ (i := 17) (N := some 45) (v := ?_) (a' := ?_) #[true, true, true, true, true, true, true, true, true, true, true, true, true, true, true, true, true, true, false] rfl rfl (by kernel_rfl) (fun _ _ _ h => h) (Or.inl ⟨by rfl, ?_⟩) ?_ ?_
   rotate_left
   ·intro w'
    go_simp
    with_reducible rfl
   rotate_left
   ·simp only [Act.put, sAt, sZr, sSc, i64_w, i32_w]
    rfl
   refine last_ (i := 18) (N := none) #[true, true, true, true, true, true, true, true, true, true, true, true, true, true, true, true, true, true, true] rfl rfl (by kernel_rfl) (by decide) (fun K hK => ?_)
   have hf8 := T8.out.2.free A
   refine skip_ (w1 := ?_) (by rfl) rfl ?_ ?_
   rotate_left
   ·go_simp
    rfl
   refine hK.out _ _ ?_
   clear hK K
   refine done_ (by kernel_rfl) ?_
   have T9 := zaa.mk (T8.out.put A (upd p b))
   have I9 := zaa.mk (hfr _ _ _ (w3.setCell ⟨gc, A, none⟩ (.int .i64 (upd p b))) I8.out (fun i hi => Below.heap_setCell w3 ⟨gc, A, none⟩ _ i hi) (by simp))
   have K9 := zaa.mk (K8.out.set (p := ⟨gc, A, none⟩) (Or.inr rfl) (.int .i64 (upd p b)))
   have KQ := zaa.mk (show 2 ^ (n - q) = 2 * 2 ^ (n - (q + 1)) by
    have h2 := HA.out.2.1
    rw [← Nat.pow_succ']; congr 1; omega)
   have AB := zaa.mk (show A ≤ 1024 by have := PA.out.1; have := HM.out; omega)
   have o1 := or_one A AB.out
   have o2 : IntKind.i64.wrap ((A : Int) * 2) = (A : Int) * 2 := by rw [IntKind.wrap_i64]; have := AB.out; omega
   have o3 : wrap64 ((A : Int) * 2) = (A : Int) * 2 := w64 (by omega) (by have := AB.out; omega)
   clear hp7 hf8 hHeld T7 I7 K7 T8 I8 K8 hfr
   cases b with
   | true =>
    go_wp2
    go_roundg q
    case measure => omega
    case rel =>
     refine ⟨2 * A + 1, wrap64 (L - 1), s2, ch'.set A (upd p true), by rfl, rfl, ⟨?_, by have := HA.out; omega, by have := HA.out; rw [KQ.out]; omega, by have := HA.out; rw [KQ.out]; omega, by rw [List.length_set]; exact HL.out, HA.out.2.2.2.2.2.1.set A UI.out, HE.out⟩, T9, I9, K9⟩
     have := eL.out; have := HN.out; have := HA.out.2.1; rw [w64 (by omega) (by omega)]; omega
   | false =>
    go_wp2
    go_roundg q
    case measure => omega
    case rel =>
     refine ⟨2 * A, wrap64 (L - 1), s2, ch'.set A (upd p false), by congr 1; omega, rfl, ⟨?_, by have := HA.out; omega, by have := HA.out; rw [KQ.out]; omega, by have := HA.out; rw [KQ.out]; omega, by rw [List.length_set]; exact HL.out, HA.out.2.2.2.2.2.1.set A UI.out, HE.out⟩, T9, I9, K9⟩
     have := eL.out; have := HN.out; have := HA.out.2.1; rw [w64 (by omega) (by omega)]; omega
end Go.Proofs.YtdifgiceallpiaaDoor.Hd
/- bittree.Encode, walked by hand. -/
namespace Go.Proofs.YtdifgiceallpiaaDoor.Hd
open Go Go.RowKit YtdifgiceallpiaaDoorW.PrintWords YtdifgiceallpiaaDoorW.PrintLast YtdifgiceallpiaaDoorW.PrintMore YtdifgiceallpiaaDoor.Hw YtdifgiceallpiaaDoor.Com YtdifgiceallpiaaDoor.Rn YtdifgiceallpiaaDoor.P
attribute [local go_sem] za9 za8 zbi zbj za0 za1 zba zbb
theorem infoLB : (Tryd.prog.info? 55).map (fun i => (i.zero, i.size, i.bytes)) = some (some (.slice none 0 0), 1, 24) := by kernel_rfl
theorem infoLI : (Tryd.prog.info? 29).map (fun i => (i.zero, i.size, i.bytes)) = some (some (.slice none 0 0), 1, 24) := by kernel_rfl
theorem one3 : (Tryd.prog.info? 3).map (·.size) = some 1 := by kernel_rfl
def encT (n : Nat) : List Int → List Bool × List Int → List Int → Option (List Bool × List Int)
 | [], st, _ => some st
 | x :: t, st, ch => if x < 0 ∨ (2 ^ n : Nat) ≤ x then none else encT n t (wk (tellE x.toNat) n st 1 ch).2.1 (wk (tellE x.toNat) n st 1 ch).2.2
def btEnc (l : List Int) (n : Int) : ByteArray × Int :=
 if n < 1 ∨ 9 < n then (⟨#[]⟩, 1) else match encT n.toNat l ([], []) (List.replicate (2 ^ n.toNat) 1024) with
  | none => (⟨#[]⟩, 2)
  | some r => encP r.1 r.2
def zcb.f (l : List Int) (n : Int) : Option (ByteArray × Int) := if l.length ≤ 268435456 then some (btEnc l n) else none
def X3 (a b c : Nat) (k : Nat) : Prop := k = a ∨ k = b ∨ k = c
theorem encWalk (x m M base gx gb gp gt gc : Nat) (st : List Bool × List Int) (ch : List Int) (w : World) (hx : x < 9223372036854775808) (hm : m ≤ 9) (hM : 2 ^ m = M)
  (hE : EncS (.int .i64 (x : Int)) 3 base (X3 gx gt gc) gx gb gp st.1 st.2 w) (hT : TreeS w gt gc m M 27 #[.pointer (some ⟨gx, 0, none⟩), .pointer (some ⟨gb, 0, none⟩), .pointer (some ⟨gp, 0, none⟩)] ch) (hne : gx ≠ gc) (hgc : base ≤ gc)
  (h1 : st.1.length + m ≤ 4294967296) (h2 : st.2.length + m ≤ 4294967296) (hl : ch.length = M) (hF : FineC ch) :
  Calls Tryd.prog 28 #[.pointer (some ⟨gt, 0, none⟩)] w fun e w' => ∃ r : Int, e = .returned (.int .i64 r) ∧ EncS (.int .i64 (x : Int)) 3 base (X3 gx gt gc) gx gb gp (wk (tellE x) m st 1 ch).2.1.1 (wk (tellE x) m st 1 ch).2.1.2 w' ∧
   TreeS w' gt gc m M 27 #[.pointer (some ⟨gx, 0, none⟩), .pointer (some ⟨gb, 0, none⟩), .pointer (some ⟨gp, 0, none⟩)] (wk (tellE x) m st 1 ch).2.2 ∧ Kp (fun i => base ≤ i) w w' ∧ (wk (tellE x) m st 1 ch).2.2.length = M ∧ FineC (wk (tellE x) m st 1 ch).2.2 := by
 refine (walk_calls (tellE x) (fun q W s => EncS (.int .i64 (x : Int)) 3 base (X3 gx gt gc) gx gb gp s.1 s.2 W ∧ s.1.length + q ≤ 4294967296 ∧ s.2.length + q ≤ 4294967296) (fun i => base ≤ i ∧ ¬ X3 gx gt gc i) gt gc m M 27 #[.pointer (some ⟨gx, 0, none⟩), .pointer (some ⟨gb, 0, none⟩), .pointer (some ⟨gp, 0, none⟩)] Tryd.func27 (by kernel_rfl) rfl (fun e => e.2 (Or.inr (Or.inl rfl))) (fun e => e.2 (Or.inr (Or.inr rfl))) ?_ ?_ st ch w hT ⟨hE, h1, h2⟩ hm hM hl hF).mono ?_
 ·rintro s p k W ⟨hE, h1, h2⟩ hp1 hp hk
  refine (tellE_calls x k p base (X3 gx gt gc) gx gb gp s.1 s.2 W hx (by omega) hE (by omega) (by omega)).mono ?_
  rintro e w' ⟨rfl, hE', hK⟩
  exact ⟨rfl, ⟨hE', by show (s.1 ++ [bitOf x k]).length + k ≤ _; simp; omega, by show (s.2 ++ [p]).length + k ≤ _; simp; omega⟩, hK⟩
 ·rintro q s W W' ⟨hE, h1, h2⟩ hh hs
  exact ⟨hE.move (fun i _ hi => hh i (fun e => hi (Or.inr (Or.inr e)))) ((hh gx hne).trans hE.1) (by omega), h1, h2⟩
 ·rintro e w' ⟨rfl, hT', hE', hK, hl', hF', _, _⟩
  exact ⟨_, rfl, hE'.1, hT', hK.imp (fun i _ h => h.elim (fun h => h.1) (fun h => h ▸ hgc)), hl', hF'⟩
set_option maxHeartbeats 8000000 in
set_option maxRecDepth 100000 in
theorem zcb.calls (A0 : Option Addr) (c0 : Nat) (l0 : List Int) (n : Int) (r1 : ByteArray) (r2 : Int) (w : World) (hr0 : Kd.C (Kd.int .i64) w A0 l0.length l0) (hc0 : l0.length ≤ c0) (h : zcb.f l0 n = some (r1, r2)) :
  Calls Tryd.prog 13 #[.slice A0 l0.length c0, .int .i64 n] w fun e w' => e = .returned (.tuple #[.string r1, .int .i64 r2]) ∧ Below w.heap.size w w' := by
 unfold zcb.f at h
 by_cases hL : l0.length ≤ 268435456
 case neg => rw [if_neg hL] at h; cases h
 rw [if_pos hL] at h
 replace h := Option.some.inj h
 unfold btEnc at h
 by_cases hn : n < 1 ∨ 9 < n
 ·rw [if_pos hn] at h
  obtain ⟨rfl, rfl⟩ := Prod.mk.inj h
  clear h hr0 hc0 hL
  by_cases h1 : n < 1
  ·have t1 : decide (n < 1) = true := decide_eq_true h1
   clear hn h1
   go_enter Tryd.func13, Tryd.ntmps13
   go_wp2
   go_ret2
   exact ⟨rfl, by repeat (first | (with_reducible first | apply zac | apply zab | apply zad) | exact Below.refl _ _)⟩
  ·have t1 : decide (n < 1) = false := decide_eq_false h1
   have t2 : decide (n > 9) = true := decide_eq_true (by omega)
   have t3 : decide (9 < n) = true := decide_eq_true (by omega)
   clear hn h1
   go_enter Tryd.func13, Tryd.ntmps13
   go_wp2
   go_ret2
   exact ⟨rfl, by repeat (first | (with_reducible first | apply zac | apply zab | apply zad) | exact Below.refl _ _)⟩
 ·rw [if_neg hn] at h
  obtain ⟨m, rfl⟩ : ∃ m : Nat, n = m := ⟨n.toNat, by omega⟩
  rw [Int.toNat_natCast] at h
  have HR0 := zaa.mk hr0
  have HN := zaa.mk (show 1 ≤ m ∧ m ≤ 9 by omega)
  have HLL := zaa.mk hL
  obtain ⟨M, hM⟩ : ∃ M, 2 ^ m = M := ⟨_, rfl⟩
  have HM := zaa.mk hM
  have HMB := zaa.mk (show 1 ≤ M ∧ M ≤ 512 by
   have : ∀ m : Nat, m ≤ 9 → 1 ≤ 2 ^ m ∧ 2 ^ m ≤ 512 := by decide
   rw [← hM]; exact this m (by omega))
  have HE := zaa.mk h
  have t1 : decide ((m : Int) < 1) = false := decide_eq_false (by omega)
  have t2 : decide ((m : Int) > 9) = false := decide_eq_false (by omega)
  have t3 : decide ((9 : Int) < (m : Int)) = false := decide_eq_false (by omega)
  clear h hn hr0 hc0 hL hM
  go_enter Tryd.func13, Tryd.ntmps13
  go_wp2_with (first
   | ((with_reducible refine zay (N := 6) rfl ?_); refine alloc_any rfl rfl infoLB rfl ?_; intro gb w1 G1 K1 B1)
   | ((with_reducible refine zay (N := 7) rfl ?_); refine alloc_any rfl rfl infoLI rfl ?_; intro gp w2 G2 K2 B2)
   | ((with_reducible refine zay (N := 8) rfl ?_); refine alloc_any rfl rfl info3t rfl ?_; intro gx w3 G3 K3 B3; have hx3 := (zah K3.out 0).trans (rfl : _ = some (Value.int .i64 0)); have hfx3 := zao K3.out 0)
   | ((with_reducible refine zbx (t := 3) (p := 8) rfl ?_); refine store_one rfl 3 (.tmp 8) (.const (.int .i64 0)) rfl gx _ rfl rfl rfl 3 _ K3.out one3 ?_; intro w4 K4 G4; clear hx3 hfx3)
   | (go_at_call 26; (with_reducible refine (fresh_calls m 27 #[.pointer (some ⟨gx, 0, none⟩), .pointer (some ⟨gb, 0, none⟩), .pointer (some ⟨gp, 0, none⟩)] w4 HN.out.1 HN.out.2).mono ?_); rintro e w5 ⟨gt, gc, rfl, hT, hgt, hgc, hB⟩; rw [HM.out] at hT; have T5 := zaa.mk hT; have G5 := zaa.mk (And.intro hgt hgc); have B5 := zaa.mk hB; clear hT hgt hgc hB))
  have E5 := zaa.mk (show EncS (.int .i64 0) 3 w.heap.size (X3 gx gt gc) gx gb gp [] [] w5 ∧ gx ≠ gc ∧ w.heap.size ≤ gx ∧ Below w.heap.size w w5 from by
   have hb1 := zaf B1.out B2.out
   have hb2 := zaf hb1 B3.out
   have l1 := zb0 K1.out
   have l2 := zb0 K2.out
   have l3 := zb0 K3.out
   have z1 := B1.out.size; have z2 := B2.out.size; have z3 := B3.out.size; have z4 := G4.out.size
   have g1 := G1.out; have g2 := G2.out; have g3 := G3.out; have g5 := G5.out
   have kb : w5.heap[gb]? = some (.cells #[.slice none 0 0] 55 (0, 0)) := za6 (zby (za6 (za6 K1.out B2.out) B3.out) G4.out (by simp; omega)) B5.out
   have kp : w5.heap[gp]? = some (.cells #[.slice none 0 0] 29 (0, 0)) := za6 (zby (za6 K2.out B3.out) G4.out (by simp; omega)) B5.out
   have kx : w5.heap[gx]? = some (.cells #[.int .i64 0] 3 (0, 0)) := za6 K4.out B5.out
   have lt : gt < w5.heap.size := zb0 T5.out.1
   have lc : gc < w5.heap.size := zb0 T5.out.2
   have lx : gx < w5.heap.size := zb0 kx
   refine ⟨⟨kx, Or.inl rfl, ⟨by omega, ?_⟩, ⟨by omega, ?_⟩, _, _, kb, kp, Kd.R_nil _ _ _ _ _, Kd.R_nil _ _ _ _ _, Kp.refl _ _, ?_, by omega⟩, by omega, by omega, zaf (below_grown hb2 G4.out (by omega) (by omega)) B5.out⟩
   ·rintro (e | e | e) <;> omega
   ·rintro (e | e | e) <;> omega
   ·rintro k (e | e | e) <;> omega)
  have W4 := zaa.mk (show w.heap.size ≤ w4.heap.size from by have z1 := B1.out.size; have z2 := B2.out.size; have z3 := B3.out.size; have z4 := G4.out.size; omega)
  clear B1 B2 B3 B5 K1 K2 K3 K4 G1 G2 G3 G4
  go_loopg [21] l0.length (fun q v21 w' => ∃ (L : Int) (i : Nat) (x : Int) (bl : List Bool) (pl : List Int) (ch : List Int), v21 = .int .i64 L ∧ zaa (L = (i : Int) ∧ i + q = l0.length ∧ bl.length = m * i ∧ pl.length = m * i ∧ ch.length = M ∧ FineC ch ∧ encT m (l0.drop i) (bl, pl) ch = encT m l0 ([], []) (List.replicate M 1024)) ∧
   zaa (EncS (.int .i64 x) 3 w.heap.size (X3 gx gt gc) gx gb gp bl pl w') ∧ zaa (TreeS w' gt gc m M 27 #[.pointer (some ⟨gx, 0, none⟩), .pointer (some ⟨gb, 0, none⟩), .pointer (some ⟨gp, 0, none⟩)] ch) ∧ zaa (Below w.heap.size w w'))
  case atStart => exact ⟨0, 0, 0, [], [], List.replicate M 1024, rfl, ⟨rfl, by omega, by simp, by simp, by simp, fun y hy => by rw [List.eq_of_mem_replicate hy]; omega, rfl⟩, ⟨E5.out.1⟩, T5, ⟨E5.out.2.2.2⟩⟩
  case round =>
   have NX := zaa.mk E5.out.2.1
   have GX := zaa.mk E5.out.2.2.1
   have HGC := zaa.mk (show w.heap.size ≤ gc from by have h1 := G5.out.2; have h2 := W4.out; omega)
   clear E5 T5
   obtain ⟨L, i, x0, bl, pl, ch, rfl, HA, E, T, B⟩ := hrel
   cases gk with
   | zero =>
    have t4 : decide (L < (l0.length : Int)) = false := decide_eq_false (by have := HA.out; omega)
    have h := HE.out
    rw [HM.out, ← HA.out.2.2.2.2.2.2, List.drop_eq_nil_of_le (by have := HA.out; omega)] at h
    have hbnd : m * i ≤ 9 * 268435456 := Nat.mul_le_mul HN.out.2 (by have := HA.out; have := HLL.out; omega)
    have RF := zaa.mk (show zcj.f bl pl = some (r1, r2) from by
     have h' : encP bl pl = (r1, r2) := h
     unfold zcj.f
     rw [if_pos (by have := HA.out; omega), h'])
    obtain ⟨hgx, hXx, hGB, hGP, vb, vp, J⟩ := E.out
    obtain ⟨Ab, cb, rfl, hlb, hCb⟩ := Kd.R_reads J.rb
    obtain ⟨Ap, cp, rfl, hlp, hCp⟩ := Kd.R_reads J.rp
    have CB := zaa.mk hCb
    have CP := zaa.mk hCp
    have LB := zaa.mk hlb
    have LP := zaa.mk hlp
    have hcb := (zah J.hb 0).trans (rfl : _ = some (Value.slice Ab bl.length cb))
    have hcp := (zah J.hp 0).trans (rfl : _ = some (Value.slice Ap pl.length cp))
    clear hgx hXx hGB hGP J hCb hCp hlb hlp h hbnd
    go_wp2_with (first
     | (go_at_call 29; (with_reducible refine (zcj.calls Ab cb bl Ap cp pl r1 r2 _ CB.out LB.out CP.out LP.out RF.out).mono ?_); rintro e w7 ⟨rfl, hB⟩; have B7 := zaa.mk (zaf B.out hB); clear hB))
    go_ret2
    exact ⟨rfl, B7.out⟩
   | succ q =>
    have t4 : decide (L < (l0.length : Int)) = true := decide_eq_true (by have := HA.out; omega)
    have p1 : (0 ≤ L) = True := eq_true (by have := HA.out; omega)
    have p2 : (L < (l0.length : Int)) = True := eq_true (by have := HA.out; omega)
    obtain ⟨ad0, e_, hc0⟩ := Kd.at_int HR0.out L (by have := HA.out; omega) (by have := HA.out; omega)
    subst e_
    have hd0 := (B.out.cell (World.block_lt_of_cell? w _ hc0)).trans hc0
    clear hc0
    have hi : i < l0.length := by have := HA.out; omega
    have e0 : l0.drop i = rd l0 L :: l0.drop (i + 1) := by
     rw [List.drop_eq_getElem_cons hi, HA.out.1, rd_some (List.getElem?_eq_getElem hi)]
    obtain ⟨x, hx⟩ : ∃ x, rd l0 L = x := ⟨_, rfl⟩
    rw [hx] at hd0 e0
    have hE := HA.out.2.2.2.2.2.2
    rw [e0, encT, HM.out] at hE
    have h := HE.out
    rw [HM.out, ← hE] at h
    clear hi e0 hx
    by_cases hx0 : x < 0
    ·have t5 : decide (x < 0) = true := decide_eq_true hx0
     rw [if_pos (Or.inl hx0)] at h
     obtain ⟨rfl, rfl⟩ := Prod.mk.inj h
     clear h hE hx0
     go_wp2_with (first
      | ((with_reducible refine zbx (t := 3) (p := 8) rfl ?_); refine store_one rfl 3 (.tmp 8) (.tmp 24) rfl gx _ rfl rfl rfl 3 _ E.out.1 one3 ?_; intro w6 K6 G6; have hx6 := (zah K6.out 0).trans (rfl : _ = some (Value.int .i64 x)); have B6 := zaa.mk (below_grown B.out G6.out GX.out B.out.size)))
     go_ret2
     exact ⟨rfl, B6.out⟩
    ·have t5 : decide (x < 0) = false := decide_eq_false hx0
     obtain ⟨y, rfl⟩ : ∃ y : Nat, x = y := ⟨x.toNat, by omega⟩
     have pm : (0 ≤ (m : Int)) = True := eq_true (by omega)
     obtain ⟨DD, hDD⟩ : ∃ DD : Int, (y : Int) / 2 ^ ((m : Int)).toNat = DD := ⟨_, rfl⟩
     have hsh : Op.shift BinOp.shr IntKind.i64 (y : Int) IntKind.i64 (m : Int) = pure (.int .i64 DD) := by
      rw [← hDD]
      exact shift_shr .i64 .i64 (y : Int) _ (by omega) (by have := HN.out; simp [IntKind.bits]; omega)
     have eD : DD = ((y / M : Nat) : Int) := by
      rw [← hDD, Int.toNat_natCast, ← HM.out]; simp
     by_cases hy : M ≤ y
     ·have t6 : (DD != 0) = true := by
       rw [eD, bne_iff_ne]
       have : 1 ≤ y / M := (Nat.le_div_iff_mul_le (by have := HMB.out; omega)).2 (by omega)
       omega
      rw [if_pos (Or.inr (by omega))] at h
      obtain ⟨rfl, rfl⟩ := Prod.mk.inj h
      clear h hE hx0 hDD eD hy
      go_wp2_with (first
       | ((with_reducible refine zbx (t := 3) (p := 8) rfl ?_); refine store_one rfl 3 (.tmp 8) (.tmp 24) rfl gx _ rfl rfl rfl 3 _ E.out.1 one3 ?_; intro w6 K6 G6; have hx6 := (zah K6.out 0).trans (rfl : _ = some (Value.int .i64 (y : Int))); have B6 := zaa.mk (below_grown B.out G6.out GX.out B.out.size)))
      go_ret2
      exact ⟨rfl, B6.out⟩
     ·have t6 : (DD != 0) = false := by
       rw [eD, Nat.div_eq_of_lt (by omega)]; rfl
      rw [if_neg (by omega), Int.toNat_natCast] at hE
      have HY := zaa.mk (show y < M by omega)
      have HE2 := zaa.mk hE
      have hbnd := zaa.mk (show bl.length + m ≤ 4294967296 ∧ pl.length + m ≤ 4294967296 by
       have h1 : m * i ≤ 9 * 268435456 := Nat.mul_le_mul HN.out.2 (by have := HA.out; have := HLL.out; omega)
       have := HA.out; have := HN.out; omega)
      clear h hE hx0 hDD eD hy
      go_wp2_with (first
       | ((with_reducible refine zbx (t := 3) (p := 8) rfl ?_); refine store_one rfl 3 (.tmp 8) (.tmp 24) rfl gx _ rfl rfl rfl 3 _ E.out.1 one3 ?_; intro w6 K6 G6; have hx6 := (zah K6.out 0).trans (rfl : _ = some (Value.int .i64 (y : Int))); have B6 := zaa.mk (below_grown B.out G6.out GX.out B.out.size); have E6 := zaa.mk (E.out.move (fun k hk hX => G6.out.block k hk (fun e => hX (Or.inl (Option.some.inj e)))) K6.out G6.out.size); have T6 := zaa.mk (show TreeS w6 gt gc m M _ _ ch from ⟨zby T.out.1 G6.out (fun e => zb9 T.out.1 E.out.1 (by decide) (Option.some.inj e)), Blk.grown T.out.2 G6.out (fun e => NX.out (Option.some.inj e).symm)⟩)))
      refine (encWalk y m M w.heap.size gx gb gp gt gc (bl, pl) ch w6 (by have := HY.out; have := HMB.out; omega) HN.out.2 HM.out E6.out T6.out NX.out HGC.out hbnd.out.1 hbnd.out.2 HA.out.2.2.2.2.1 HA.out.2.2.2.2.2.1).mono ?_
      rintro e w7 ⟨r, rfl, hE7, hT7, hK7, hl7, hF7⟩
      have E7 := zaa.mk hE7
      have T7 := zaa.mk hT7
      have B7 := zaa.mk (Kp.join B6.out hK7 (fun _ h => h) B6.out.size)
      have F7 := zaa.mk (And.intro hl7 hF7)
      clear hE7 hT7 hK7 hl7 hF7
      go_wp2
      go_roundg q
      case measure => omega
      case rel =>
       have hwl := wk_len y m (bl, pl) 1 ch
       refine ⟨wrap64 (L + 1), i + 1, (y : Int), _, _, _, rfl, ⟨?_, by have := HA.out; omega, ?_, ?_, F7.out.1, F7.out.2, HE2.out⟩, E7, T7, B7⟩
       ·have := HA.out; have := HLL.out; rw [w64 (by omega) (by omega)]; omega
       ·rw [hwl.1, Nat.mul_succ]; have := HA.out; show bl.length + m = _; omega
       ·rw [hwl.2, Nat.mul_succ]; have := HA.out; show pl.length + m = _; omega
end Go.Proofs.YtdifgiceallpiaaDoor.Hd
/- bittree.Decode, walked by hand. -/
namespace Go.Proofs.YtdifgiceallpiaaDoor.Hd
open Go Go.RowKit YtdifgiceallpiaaDoorW.PrintWords YtdifgiceallpiaaDoorW.PrintLast YtdifgiceallpiaaDoorW.PrintMore YtdifgiceallpiaaDoor.Hw YtdifgiceallpiaaDoor.Com YtdifgiceallpiaaDoor.Rn YtdifgiceallpiaaDoor.P
attribute [local go_sem] za9 za8 zbi zbj za0 za1 zba zbb
theorem infoD : (Tryd.prog.info? 102).map (fun i => (i.zero, i.size, i.bytes)) = some (some (.pointer none), 1, 8) := by kernel_rfl
theorem oneD : (Tryd.prog.info? 102).map (·.size) = some 1 := by kernel_rfl
def decT (n M : Nat) : Nat → Ds → List Int → List Int
 | 0, _, _ => []
 | k + 1, d, ch => (((wk tellD n d 1 ch).1 : Int) - (M : Int)) :: decT n M k (wk tellD n d 1 ch).2.1 (wk tellD n d 1 ch).2.2
def btDec (s : ByteArray) (many n : Int) : List Int × Int :=
 if n < 1 ∨ 9 < n ∨ many < 0 ∨ 1048576 < many then ([], 1) else (decT n.toNat (2 ^ n.toNat) many.toNat (dStart s) (List.replicate (2 ^ n.toNat) 1024), 0)
def zcc.f (s : ByteArray) (many n : Int) : Option (List Int × Int) := some (btDec s many n)
theorem decWalk (m M gv g gt gc : Nat) (d : Ds) (ch : List Int) (w : World) (hm : m ≤ 9) (hM : 2 ^ m = M)
  (hE : DcS gv g d w) (hT : TreeS w gt gc m M 59 #[.pointer (some ⟨gv, 0, none⟩)] ch) (hl : ch.length = M) (hF : FineC ch) :
  Calls Tryd.prog 28 #[.pointer (some ⟨gt, 0, none⟩)] w fun e w' => e = .returned (.int .i64 (((wk tellD m d 1 ch).1 : Int) - (M : Int))) ∧ DcS gv g (wk tellD m d 1 ch).2.1 w' ∧
   TreeS w' gt gc m M 59 #[.pointer (some ⟨gv, 0, none⟩)] (wk tellD m d 1 ch).2.2 ∧ Kp (fun i => i = g ∨ i = gc) w w' ∧ (wk tellD m d 1 ch).2.2.length = M ∧ FineC (wk tellD m d 1 ch).2.2 := by
 have n1 : g ≠ gt := zb9 hE.2.1 hT.1 (by decide)
 have n2 : g ≠ gc := zb9 hE.2.1 hT.2 (by decide)
 have n3 : gv ≠ gc := zb9 hE.1 hT.2 (by decide)
 refine (walk_calls tellD (fun _ W d => DcS gv g d W) (fun i => i = g) gt gc m M 59 #[.pointer (some ⟨gv, 0, none⟩)] Tryd.func59 (by kernel_rfl) rfl n1.symm n2.symm ?_ ?_ d ch w hT hE hm hM hl hF).mono ?_
 ·intro s p k W hE hp1 hp hk
  obtain ⟨q, rfl⟩ : ∃ q : Nat, p = q := ⟨p.toNat, by omega⟩
  refine (tellD_calls q k gv g s W hE (by omega) (by omega)).mono ?_
  rintro e w' ⟨rfl, hE', hK⟩
  refine ⟨?_, ?_, hK⟩
  ·simp [tellD]
  ·simpa [tellD] using hE'
 ·intro q s W W' hE hh hs
  exact hE.move (hh g n2) (hh gv n3)
 ·rintro e w' ⟨rfl, hT', hE', hK, hl', hF', _, _⟩
  exact ⟨rfl, hE', hT', hK, hl', hF'⟩
set_option maxHeartbeats 8000000 in
set_option maxRecDepth 100000 in
theorem zcc.calls (s : ByteArray) (many n : Int) (r1 : List Int) (r2 : Int) (w : World) (h : zcc.f s many n = some (r1, r2)) :
  Calls Tryd.prog 38 #[.string s, .int .i64 many, .int .i64 n] w fun e w' => ∃ v0_ : Value, e = .returned (.tuple #[v0_, .int .i64 r2]) ∧ Kd.R (Kd.int .i64) 3 w' w.heap.size (fun _ => True) v0_ r1 ∧ Below w.heap.size w w' := by
 unfold zcc.f at h
 replace h := Option.some.inj h
 unfold btDec at h
 by_cases hn : n < 1 ∨ 9 < n ∨ many < 0 ∨ 1048576 < many
 ·rw [if_pos hn] at h
  obtain ⟨rfl, rfl⟩ := Prod.mk.inj h
  clear h
  by_cases h1 : n < 1
  ·have t1 : decide (n < 1) = true := decide_eq_true h1
   clear hn h1
   go_enter Tryd.func38, Tryd.ntmps38
   go_wp2
   go_ret2
   exact ⟨_, rfl, Kd.R_nil _ _ _ _ _, by repeat (first | (with_reducible first | apply zac | apply zab | apply zad) | exact Below.refl _ _)⟩
  ·have t1 : decide (n < 1) = false := decide_eq_false h1
   by_cases h2 : 9 < n
   ·have t2 : decide (n > 9) = true := decide_eq_true h2
    have t3 : decide (9 < n) = true := decide_eq_true h2
    clear hn h1 h2
    go_enter Tryd.func38, Tryd.ntmps38
    go_wp2
    go_ret2
    exact ⟨_, rfl, Kd.R_nil _ _ _ _ _, by repeat (first | (with_reducible first | apply zac | apply zab | apply zad) | exact Below.refl _ _)⟩
   ·have t2 : decide (n > 9) = false := decide_eq_false h2
    have t3 : decide (9 < n) = false := decide_eq_false h2
    by_cases h3 : many < 0
    ·have t4 : decide (many < 0) = true := decide_eq_true h3
     clear hn h1 h2 h3
     go_enter Tryd.func38, Tryd.ntmps38
     go_wp2
     go_ret2
     exact ⟨_, rfl, Kd.R_nil _ _ _ _ _, by repeat (first | (with_reducible first | apply zac | apply zab | apply zad) | exact Below.refl _ _)⟩
    ·have t4 : decide (many < 0) = false := decide_eq_false h3
     have t5 : decide (many > 1048576) = true := decide_eq_true (by omega)
     have t6 : decide (1048576 < many) = true := decide_eq_true (by omega)
     clear hn h1 h2 h3
     go_enter Tryd.func38, Tryd.ntmps38
     go_wp2
     go_ret2
     exact ⟨_, rfl, Kd.R_nil _ _ _ _ _, by repeat (first | (with_reducible first | apply zac | apply zab | apply zad) | exact Below.refl _ _)⟩
 ·rw [if_neg hn] at h
  obtain ⟨m, rfl⟩ : ∃ m : Nat, n = m := ⟨n.toNat, by omega⟩
  obtain ⟨mn, rfl⟩ : ∃ m : Nat, many = m := ⟨many.toNat, by omega⟩
  rw [Int.toNat_natCast, Int.toNat_natCast] at h
  obtain ⟨M, hM⟩ : ∃ M, 2 ^ m = M := ⟨_, rfl⟩
  rw [hM] at h
  have HM := zaa.mk hM
  have HN := zaa.mk (show 1 ≤ m ∧ m ≤ 9 ∧ mn ≤ 1048576 by omega)
  obtain ⟨rfl, rfl⟩ := Prod.mk.inj h
  have t1 : decide ((m : Int) < 1) = false := decide_eq_false (by omega)
  have t2 : decide ((m : Int) > 9) = false := decide_eq_false (by omega)
  have t3 : decide ((9 : Int) < (m : Int)) = false := decide_eq_false (by omega)
  have t4 : decide ((mn : Int) < 0) = false := decide_eq_false (by omega)
  have t5 : decide ((mn : Int) > 1048576) = false := decide_eq_false (by omega)
  have t6 : decide ((1048576 : Int) < (mn : Int)) = false := decide_eq_false (by omega)
  clear h hn hM
  go_enter Tryd.func38, Tryd.ntmps38
  go_wp2_with (first
   | (go_at_call 58; (with_reducible refine (New_calls s _).mono ?_); rintro e w1 ⟨g, rfl, hg, hS, hB⟩; have D1 := zaa.mk (show DecD w1 g (dStart s) from hS); have G1 := zaa.mk hg; have B1 := zaa.mk hB; clear hg hS hB)
   | ((with_reducible refine zay (N := 8) rfl ?_); refine alloc_any rfl rfl infoD rfl ?_; intro gv w2 G2 K2 B2; have D2 := zaa.mk (show DecD w2 g (dStart s) from Sp.below D1.out B2.out); have hv2 := (zah K2.out 0).trans (rfl : _ = some (Value.pointer none)); have hf2 := zao K2.out 0)
   | ((with_reducible refine zbx (t := 102) (p := 8) rfl ?_); refine store_one rfl 102 (.tmp 8) (.tmp 26) rfl gv _ rfl rfl rfl 102 _ K2.out oneD ?_; intro w3 K3 G3; clear hv2 hf2; have D3 := zaa.mk (show DecD w3 g (dStart s) from zby D2.out G3.out (fun e => zb9 D2.out K2.out (by decide) (Option.some.inj e))))
   | (go_at_call 26; (with_reducible refine (fresh_calls m 59 #[.pointer (some ⟨gv, 0, none⟩)] w3 HN.out.1 HN.out.2.1).mono ?_); rintro e w5 ⟨gt, gc, rfl, hT, hgt, hgc, hB⟩; rw [HM.out] at hT; have T5 := zaa.mk hT; have G5 := zaa.mk (And.intro hgt hgc); have B5 := zaa.mk hB; have E5 := zaa.mk (show DcS gv g (dStart s) w5 from ⟨za6 K3.out hB, za6 D3.out hB, dStart_ok s⟩); clear hT hgt hgc hB))
  have BB := zaa.mk (show Below w.heap.size w w5 ∧ w.heap.size ≤ gc ∧ w.heap.size ≤ g from by
   have hb2 := zaf B1.out B2.out
   have z1 := B1.out.size; have z2 := B2.out.size; have z3 := G3.out.size; have g2 := G2.out; have g5 := G5.out; have g1 := G1.out
   exact ⟨zaf (below_grown hb2 G3.out (by omega) (by omega)) B5.out, by omega, g1⟩)
  clear D1 G1 B1 G2 K2 B2 D2 K3 G3 D3 G5 B5
  go_loopg [10] mn (fun q v10 w' => ∃ (A : Option Addr) (xs : List Int) (cc : Nat) (d : Ds) (ch : List Int), v10 = .slice A xs.length cc ∧ zaa (xs.length + q = mn ∧ ch.length = M ∧ FineC ch ∧ xs ++ decT m M q d ch = decT m M mn (dStart s) (List.replicate M 1024)) ∧ zaa (Kd.R (Kd.int .i64) 3 w' w.heap.size (fun k => k ≠ g ∧ k ≠ gc) (.slice A xs.length cc) xs) ∧
   zaa (DcS gv g d w') ∧ zaa (TreeS w' gt gc m M 59 #[.pointer (some ⟨gv, 0, none⟩)] ch) ∧ zaa (Below w.heap.size w w'))
  case atStart => exact ⟨none, [], 0, dStart s, List.replicate M 1024, rfl, ⟨by simp, by simp, fun y hy => by rw [List.eq_of_mem_replicate hy]; omega, rfl⟩, ⟨Kd.R_nil _ _ _ _ _⟩, E5, T5, ⟨BB.out.1⟩⟩
  case round =>
   have GB := zaa.mk BB.out.2
   clear E5 T5 BB
   obtain ⟨A, xs, cc, d, ch, rfl, HA, R, E, T, B⟩ := hrel
   cases gk with
   | zero =>
    have t7 : decide ((xs.length : Int) < (mn : Int)) = false := decide_eq_false (by have := HA.out; omega)
    have t8 : decide (xs.length < mn) = false := decide_eq_false (by have := HA.out; omega)
    have e := HA.out.2.2.2
    have e2 : xs ++ decT m M 0 d ch = xs := List.append_nil xs
    rw [e2] at e
    have E2 := zaa.mk e
    clear e e2
    go_wp2
    go_ret2
    have hR := R.out
    rw [E2.out] at hR
    rw [E2.out]
    exact ⟨_, rfl, Kd.R_mono hR (fun _ _ => trivial), B.out⟩
   | succ q =>
    have t7 : decide ((xs.length : Int) < (mn : Int)) = true := decide_eq_true (by have := HA.out; omega)
    have t8 : decide (xs.length < mn) = true := decide_eq_true (by have := HA.out; omega)
    obtain ⟨y, hy⟩ : ∃ y : Int, ((wk tellD m d 1 ch).1 : Int) - (M : Int) = y := ⟨_, rfl⟩
    have HE := HA.out.2.2.2
    rw [decT, hy] at HE
    have HE := zaa.mk HE
    have HX := zaa.mk (show xs.length ≤ 1048576 by have := HA.out; have := HN.out; omega)
    have HY := zaa.mk hy
    clear hy
    go_wp2_with fail
    refine (decWalk m M gv g gt gc d ch _ HN.out.2.1 HM.out E.out T.out HA.out.2.1 HA.out.2.2.1).mono ?_
    rintro e w6 ⟨rfl, hE6, hT6, hK6, hl6, hF6⟩
    rw [HY.out]
    have E6 := zaa.mk hE6
    have T6 := zaa.mk hT6
    have B6 := zaa.mk (Kp.join B.out hK6 (fun i h => h.elim (fun h => h ▸ GB.out.2) (fun h => h ▸ GB.out.1)) B.out.size)
    have R6 := zaa.mk (Kp.R R.out hK6 (fun i h _ e => e.elim h.1 h.2))
    have F6 := zaa.mk (And.intro hl6 hF6)
    clear hE6 hT6 hK6 hl6 hF6
    go_wp2_with (first
     | ((with_reducible refine zaw (b := .append) (xs := #[.tmp 34, .tmp 37]) rfl ?_); at_builtin; refine Kd.R_append (Kd.int .i64) (w0 := w) w.heap.size rfl (.tmp 34) (.tmp 37) 29 3 (.int .i64 0) 8 rfl Tryd.underlying29 info3t rfl (by decide) (by omega) (.slice A xs.length cc) xs y [.int .i64 y] (fun k => k ≠ g ∧ k ≠ gc) (fun _ => False) rfl (by first | (go_simp; done) | (go_simp; rfl)) ?aP (fun _ hk => hk.elim) ?aF ?aO ?aB ?aS ?aL ?_; (case aP => exact rfl); (case aF => intro k hk; have l1 := zb0 E6.out.2.1; have l2 := zb0 T6.out.2; exact ⟨by omega, by omega⟩); (case aO => exact R6.out); (case aB => exact B6.out); (case aS => exact B6.out.size); (case aL => have := HX.out; omega); intro v1 w8 ho8 hb8 hg8 ha8; have E8 := zaa.mk (E6.out.move (hg8.block g (zb0 E6.out.2.1) (Kd.R_ne R6.out E6.out.2.1 (by decide))) (hg8.block gv (zb0 E6.out.1) (Kd.R_ne R6.out E6.out.1 (by decide)))); have T8 := zaa.mk (show TreeS w8 gt gc m M _ _ _ from ⟨zby T6.out.1 hg8 (Kd.R_ne R6.out T6.out.1 (by decide)), Blk.grown T6.out.2 hg8 (fun e => (R6.out.1 gc e.symm).2 rfl)⟩); obtain ⟨A3, c3, e3⟩ := Kd.R_slice ho8; subst e3; have R8 := zaa.mk ho8; have B8 := zaa.mk hb8; clear ho8 hb8 hg8 ha8))
    go_roundg q
    case measure => omega
    case rel =>
     exact ⟨A3, xs ++ [y], c3, _, _, by simp, ⟨by have := HA.out; simp; omega, F6.out.1, F6.out.2, by rw [List.append_assoc]; exact HE.out⟩, R8, E8, T8, B8⟩
end Go.Proofs.YtdifgiceallpiaaDoor.Hd
