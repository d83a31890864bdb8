/- tans: Encode, walked by hand. -/
import Derived.Test.YtoondlhlcmjniaaZHTnF
import Derived.Test.YtoondlhlcmjniaaZHTnI
import Derived.Test.YtoondlhlcmjniaaZHWrD
import Derived.Test.YtoondlhlcmjniaaZPx3
set_option linter.unusedVariables false
set_option linter.unusedSimpArgs false
set_option linter.unusedSectionVars false
namespace Go.Proofs.Ytoondlhlcmjniaa.Hd
open Go Go.RowKit Go.Shelf Go.Proofs.YtoondlhlcmjniaaW.PrintWords Go.Proofs.YtoondlhlcmjniaaW.PrintLast Go.Proofs.YtoondlhlcmjniaaW.PrintMore Go.Proofs.Ytoondlhlcmjniaa.Hw Go.Proofs.Ytoondlhlcmjniaa.Com Go.Proofs.Ytoondlhlcmjniaa.Cn Go.Proofs.Ytoondlhlcmjniaa.P Go.Proofs.Ytoondlhlcmjniaa.Tn Go.Proofs.Ytoondlhlcmjniaa.Bk Go.Proofs.Ytoondlhlcmjniaa.Bg
attribute [local go_sem] max2_int min2_int max_two min_two max_three min_three max_four min_four
attribute [local go_sem] Oper.semAt_some
theorem drawn_b {w w' : World} (h : Drawn0 w w') : Below w.heap.size w w' := by
  obtain ⟨k, rfl⟩ := h
  exact pw_below_drewN (Below.refl _ _) k
set_option maxHeartbeats 4000000 in
set_option maxRecDepth 100000 in
theorem enc_err (A0 A1 : Option Addr) (c0 c1 : Nat) (norm l : List Int) (n e : Int) (kk : Nat) (w : World) (hC : Kd.C (Kd.int .i64) w A0 norm.length norm) (hc0 : norm.length ≤ c0) (hL : Kd.C (Kd.int .i64) w A1 l.length l) (hn : l.length ≤ 1073741824) (hk : tans_check.f kk norm n = some e)
    (h : e ≠ 0 ∨ (e = 0 ∧ 1048576 < l.length) ∨ (e = 0 ∧ l.length ≤ 1048576 ∧ l.any (badS norm) = true)) :
    Calls Try.prog 14 #[.slice A1 l.length c1, .slice A0 norm.length c0, .int .i64 n] w fun r w' => r = .returned (.tuple #[.string ⟨#[]⟩, .int .i64 (if e ≠ 0 then e else if 1048576 < l.length then 5 else 7)]) ∧ Below w.heap.size w w' := by
  have HC := Aside0.mk hC
  have HL := Aside0.mk hL
  have HK := Aside0.mk hk
  have HN := Aside0.mk (And.intro hn hc0)
  clear hC hL hk
  have XA := Aside0.mk (show (w.alloc (.cells #[.slice A0 norm.length c0] 22)).heap[w.heap.size]? = some (.cells #[.slice A0 norm.length c0] 22 (0, 0)) from blk_new w _)
  have CA := Aside0.mk (below_alloc (Below.refl w.heap.size w) (.cells #[.slice A0 norm.length c0] 22))
  obtain ⟨wa, hwa⟩ : ∃ wa, w.alloc (.cells #[.slice A0 norm.length c0] 22) = wa := ⟨_, rfl⟩
  obtain ⟨gn, hgn⟩ : ∃ gn, w.heap.size = gn := ⟨_, rfl⟩
  rw [hwa] at XA CA
  have HG := Aside0.mk hgn
  rw [hgn] at XA
  have ka : wa.cell? ⟨gn, 0, none⟩ = some (.slice A0 norm.length c0) := (blk_cell XA.out 0).trans rfl
  by_cases h1 : e ≠ 0
  · have t1 : (e != 0) = true := bne_iff_ne.mpr h1
    rw [if_pos h1]
    clear h h1
    go_enter Try.func14, Try.ntmps14
    go_wp2_with (first
      | (simp only [hwa, hgn])
      | (go_at_call 21; (with_reducible refine (tans_check.calls kk A0 c0 norm n e _ (Kd.C_below HC.out CA.out) HN.out.2 HK.out).mono ?_); rintro r w1 ⟨rfl, hd⟩; have B1 := Aside0.mk (below_step CA.out (drawn_b hd)); clear hd))
    go_ret2
    exact ⟨rfl, HG.out ▸ B1.out⟩
  · have he : e = 0 := by omega
    subst he
    rw [if_neg h1]
    by_cases h2 : 1048576 < l.length
    · have t2 : decide (1048576 < l.length) = true := decide_eq_true h2
      have t2b : decide ((1048576 : Int) < (l.length : Int)) = true := decide_eq_true (by omega)
      rw [if_pos h2]
      clear h h1 h2
      go_enter Try.func14, Try.ntmps14
      go_wp2_with (first
        | (simp only [hwa, hgn])
        | (go_at_call 21; (with_reducible refine (tans_check.calls kk A0 c0 norm n 0 _ (Kd.C_below HC.out CA.out) HN.out.2 HK.out).mono ?_); rintro r w1 ⟨rfl, hd⟩; have B1 := Aside0.mk (below_step CA.out (drawn_b hd)); clear hd))
      go_ret2
      exact ⟨rfl, HG.out ▸ B1.out⟩
    · have t2 : decide (1048576 < l.length) = false := decide_eq_false h2
      have t2b : decide ((1048576 : Int) < (l.length : Int)) = false := decide_eq_false (by omega)
      rw [if_neg h2]
      have h3 : l.any (badS norm) = true := by
        rcases h with h | h | h
        · exact absurd rfl h
        · exact absurd h.2 h2
        · exact h.2.2
      have H3 := Aside0.mk h3
      clear h h1 h2 h3
      go_enter Try.func14, Try.ntmps14
      go_wp2_with (first
        | (simp only [hwa, hgn])
        | (go_at_call 21; (with_reducible refine (tans_check.calls kk A0 c0 norm n 0 _ (Kd.C_below HC.out CA.out) HN.out.2 HK.out).mono ?_); rintro r w1 ⟨rfl, hd⟩; have B0 := Aside0.mk (below_step (Below.refl wa.heap.size wa) (drawn_b hd)); have B1 := Aside0.mk (below_step CA.out (drawn_b hd)); have X1 := Aside0.mk (blk_below XA.out B0.out); clear hd)
        | (go_at_call 33; (with_reducible refine (contains_ok gn A0 A1 c0 c1 norm l w1 X1.out (Kd.C_below HC.out B1.out) (Kd.C_below HL.out B1.out) HN.out.1).mono ?_); rintro r w2 ⟨rfl, hB⟩; rw [H3.out]; have B2 := Aside0.mk (below_step B1.out hB); clear hB))
      go_ret2
      exact ⟨rfl, HG.out ▸ B2.out⟩
/-- A group of bits. -/
def Gd : Kd (Int × Int) := Kd.pair (Kd.int .u64) (Kd.int .i64)
theorem infoT : (Try.prog.info? 46).map (fun i => (i.zero, i.size, i.bytes)) = some (some (.pointer none), 1, 8) := by kernel_rfl
theorem infoL : (Try.prog.info? 69).map (fun i => (i.zero, i.size, i.bytes)) = some (some (.slice none 0 0), 1, 24) := by kernel_rfl
/-- What stands in memory while symbols are encoded. -/
structure EnS (w1 : World) (gt gv gl g Bs : Nat) (A1 : Option Addr) (ln c1 : Nat) (x : Nat) (v vr : Value) (gs : List (Int × Int)) (W : World) : Prop where
  ht : W.heap[gt]? = some (.cells #[.pointer (some ⟨g, 0, none⟩)] 46 (0, 0))
  hv : W.heap[gv]? = some (.cells #[.int .i64 (x : Int)] 3 (0, 0))
  hl : W.heap[gl]? = some (.cells #[v] 69 (0, 0))
  hb : W.heap[Bs]? = some (.cells #[.slice A1 ln c1] 22 (0, 0))
  rl : Kd.R Gd 74 W w1.heap.size (fun _ => True) vr gs
  bl : Below w1.heap.size w1 W
  lt : w1.heap.size ≤ gt
  lv : w1.heap.size ≤ gv
  ll : w1.heap.size ≤ gl
  lb : w1.heap.size ≤ Bs
theorem ko_below {W W1 : World} (hb : Below W.heap.size W W1) : KeepsOthers W W1 := ⟨hb.size, fun i o hi _ => (hb.block i (Array.getElem?_eq_some_iff.1 hi).1).trans hi⟩
theorem ne_cells {W : World} {g r : Nat} {cs : Array Value} {t : TypeId} {z : Nat × Nat} (h : W.heap[g]? = some (.cells cs t z)) {B : Nat} {row : Option Nat} (hr : ∀ r, row = some r → B ≤ r ∧ ∃ o : Obj, W.heap[r]? = some o ∧ o.isCells = false) : some g ≠ row := fun e => by
  obtain ⟨_, o, ho, hc⟩ := hr g e.symm
  rw [h] at ho
  cases ho
  cases hc
theorem EnS.own {β : Type} {w1 : World} {gt gv gl g Bs : Nat} {A1 : Option Addr} {ln c1 B : Nat} {X : β → Nat} {G : β → List (Int × Int)} (hB : w1.heap.size ≤ B) : OwnFrom B (fun s W => ∃ v, EnS w1 gt gv gl g Bs A1 ln c1 (X s) v v (G s) W) := fun s W W' row ⟨v, h⟩ hg hr =>
  ⟨v, blk_grown h.ht hg (ne_cells (r := 0) h.ht hr), blk_grown h.hv hg (ne_cells (r := 0) h.hv hr), blk_grown h.hl hg (ne_cells (r := 0) h.hl hr), blk_grown h.hb hg (ne_cells (r := 0) h.hb hr),
    Kd.R_mono (Kd.R_grown (Kd.R_bound h.rl) hg (fun k hk => by obtain ⟨_, _, _, q, _, cs, hc⟩ := hk; exact ne_cells (r := 0) hc hr)) (fun _ _ => trivial), h.bl.grown hg h.bl.size (fun k e => Nat.le_trans hB (hr k e).1), h.lt, h.lv, h.ll, h.lb⟩
section
variable {w1 W W1 : World} {gt gv gl g Bs : Nat} {A1 : Option Addr} {ln c1 x : Nat} {v vr : Value} {gs : List (Int × Int)}
theorem EnS.below (h : EnS w1 gt gv gl g Bs A1 ln c1 x v vr gs W) (b : Below W.heap.size W W1) : EnS w1 gt gv gl g Bs A1 ln c1 x v vr gs W1 :=
  ⟨blk_below h.ht b, blk_below h.hv b, blk_below h.hl b, blk_below h.hb b, Kd.R_below h.rl b, below_step h.bl b, h.lt, h.lv, h.ll, h.lb⟩
theorem EnS.app {v1 : Value} {gs1 : List (Int × Int)} (h : EnS w1 gt gv gl g Bs A1 ln c1 x v vr gs W) (hR : Kd.R Gd 74 W1 w1.heap.size (fun _ => True) v1 gs1) (hg : W.grownBy W1 vr.ownBlock) : EnS w1 gt gv gl g Bs A1 ln c1 x v v1 gs1 W1 :=
  ⟨blk_grown h.ht hg (Kd.R_ne h.rl h.ht (by decide)), blk_grown h.hv hg (Kd.R_ne h.rl h.hv (by decide)), blk_grown h.hl hg (Kd.R_ne h.rl h.hl (by decide)), blk_grown h.hb hg (Kd.R_ne h.rl h.hb (by decide)), hR, h.bl.grown hg h.bl.size (fun k e => Kd.R_base h.rl k e), h.lt, h.lv, h.ll, h.lb⟩
theorem EnS.setl (h : EnS w1 gt gv gl g Bs A1 ln c1 x v vr gs W) : EnS w1 gt gv gl g Bs A1 ln c1 x vr vr gs (W.setCell ⟨gl, 0, none⟩ vr) :=
  ⟨blk_far h.ht (blk_ne h.ht h.hl (by decide)) _, blk_far h.hv (blk_ne h.hv h.hl (by decide)) _, blk_set h.hl 0 _, blk_far h.hb (blk_ne h.hb h.hl (by decide)) _, Kd.R_set h.rl h.hl (by decide) 0 _, below_set h.bl h.ll, h.lt, h.lv, h.ll, h.lb⟩
theorem EnS.setv {y : Nat} (h : EnS w1 gt gv gl g Bs A1 ln c1 x v vr gs W) : EnS w1 gt gv gl g Bs A1 ln c1 y v vr gs (W.setCell ⟨gv, 0, none⟩ (.int .i64 (y : Int))) :=
  ⟨blk_far h.ht (blk_ne h.ht h.hv (by decide)) _, blk_set h.hv 0 _, blk_far h.hl (blk_ne h.hl h.hv (by decide)) _, blk_far h.hb (blk_ne h.hb h.hv (by decide)) _, Kd.R_set h.rl h.hv (by decide) 0 _, below_set h.bl h.lv, h.lt, h.lv, h.ll, h.lb⟩
theorem ko_row {X Y : World} {base : Nat} {u : Value} {zs : List (Int × Int)} (h : Kd.R Gd 74 X base (fun _ => True) u zs) (hg : X.grownBy Y u.ownBlock) : KeepsOthers X Y := ⟨hg.size, fun k o hk ho => (hg.block k (Array.getElem?_eq_some_iff.1 hk).1 (fun e => by
  obtain ⟨_, _, _, q, _, cs, hc⟩ := (Kd.R_bound h).1 k e.symm
  rw [hk] at hc
  cases hc
  cases ho)).trans hk⟩
end
theorem below_of {w1 W W' : World} (h : Below w1.heap.size w1 W) (h' : Below w1.heap.size w1 W') (hs : W.heap.size ≤ W'.heap.size) : Below w1.heap.size W W' := ⟨h'.os.trans h.os.symm, h'.tape.trans h.tape.symm, h'.output.trans h.output.symm, hs, fun k hk => (h'.block k hk).trans (h.block k hk).symm⟩
theorem add_at (b k : Nat) : (⟨b, 0, none⟩ : Addr).add k = ⟨b, k, none⟩ := by
  unfold Addr.add
  split
  · subst_vars; rfl
  · simp
/-- The groups' cells. -/
theorem groups_at {W : World} {base : Nat} {v : Value} {zs : List (Int × Int)} (h : Kd.R Gd 74 W base (fun _ => True) v zs) : ∃ A c, v = .slice A zs.length c ∧ ∀ j, j < zs.length → ∃ b, A = some ⟨b, 0, none⟩ ∧ b < W.heap.size ∧ W.cell? ⟨b, j * 2, none⟩ = some (.int .u64 (vlG zs j).1) ∧ W.cell? ⟨b, j * 2 + 1, none⟩ = some (.int .i64 (vlG zs j).2) := by
  obtain ⟨A, c, rfl⟩ := Kd.R_slice h
  refine ⟨A, c, rfl, fun j hj => ?_⟩
  obtain ⟨inner, ⟨_, hr⟩, _⟩ := h.2
  rcases hr with ⟨e, h0⟩ | ⟨b, cap, cur, e, _, hb, _⟩
  · omega
  · obtain ⟨rfl, -, -⟩ : A = some ⟨b, 0, none⟩ ∧ True ∧ True := by cases e; exact ⟨rfl, trivial, trivial⟩
    obtain ⟨ad, e2, hc⟩ := (Kd.R_reads' h).2.2.2.2 (by omega)
    cases e2
    obtain ⟨cs, hl, ⟨c0, c1, rfl, h1, h2⟩, hcell⟩ := hc j _ (List.getElem?_eq_getElem hj)
    have e0 : vlG zs j = zs[j] := by unfold vlG; rw [List.getElem?_eq_getElem hj]; rfl
    have h1' : c0 = [Value.int .u64 zs[j].1] := h1
    have h2' : c1 = [Value.int .i64 zs[j].2] := h2
    subst h1' h2'
    have q0 := hcell 0 _ rfl
    have q1 := hcell 1 _ rfl
    refine ⟨b, rfl, blk_lt hb, ?_, ?_⟩
    · rw [e0]
      have e : (⟨b, 0, none⟩ : Addr).add (j * Gd.sz + 0) = ⟨b, j * 2, none⟩ := by
        rw [add_at]
        simp [Gd, Kd.pair, Kd.int, Kd.scalar]
      rw [e] at q0
      exact q0
    · rw [e0]
      have e : (⟨b, 0, none⟩ : Addr).add (j * Gd.sz + 1) = ⟨b, j * 2 + 1, none⟩ := by
        rw [add_at]
        simp [Gd, Kd.pair, Kd.int, Kd.scalar]
      rw [e] at q1
      exact q1
theorem wb_new {W : World} {base g : Nat} (h : Wr W base g (.slice none 0 0) [] 0 0) : Wb W base g (.slice none 0 0) [] := ⟨[], 0, 0, (by simp), (by decide), (by decide), rfl, h⟩
theorem Put_n (g : Nat) (v : Value) (l : List Bool) (x k : Nat) (base : Nat) (w : World) (hI : Wb w base g v l) (hb : base ≤ g) (hk : k ≤ 12) (hx : x < 2 ^ k) (hl : l.length ≤ 1099511627776) :
    Calls Try.prog 38 #[.pointer (some ⟨g, 0, none⟩), .int .u64 (x : Int), .int .i64 (k : Int)] w fun e w' => ∃ v' : Value, e = .returned (.int .i64 0) ∧ Wb w' base g v' (l ++ nbits k x) ∧ Fr w w' g v := by
  have h12 : x < 4096 := Nat.lt_of_lt_of_le hx (Nat.pow_le_pow_right (n := 2) (by decide) hk)
  have e : rput l (x : Int) (k : Int) = (l ++ nbits k x, 0) := by
    unfold rput
    rw [show okP (x : Int) (k : Int) = true from decide_eq_true ⟨by omega, by omega, by
      rw [Int.toNat_natCast, show ((2 : Int) ^ k) = ((2 ^ k : Nat) : Int) by simp, ← Int.natCast_ediv, Nat.div_eq_of_lt hx]; rfl⟩, if_pos rfl, Int.toNat_natCast, Int.toNat_natCast]
  have h := Put_b g v l (x : Int) (k : Int) base w hI hb (by omega) (by omega) hl
  rw [e] at h
  exact h.mono fun r w' ⟨v', h1, h2, h3, _⟩ => ⟨v', h1, h2, h3⟩
theorem Fr.join {w w1 w2 : World} {g : Nat} {v : Value} (hB : Below w.heap.size w w1) (hF : Fr w1 w2 g v) (hg : w.heap.size ≤ g) (hv : ∀ b, v.ownBlock = some b → w.heap.size ≤ b) : Below w.heap.size w w2 := by
  obtain ⟨f1, f2, f3, f4, f5⟩ := hF
  refine ⟨f1.trans hB.os, f2.trans hB.tape, f3.trans hB.output, Nat.le_trans hB.size f4, fun i hi => ?_⟩
  have hs := hB.size
  refine (f5 i (by omega) (by omega) (fun e => ?_)).trans (hB.block i hi)
  have := hv i e.symm
  omega
theorem Wb.own {W : World} {base g : Nat} {v : Value} {l : List Bool} (h : Wb W base g v l) : ∀ b, v.ownBlock = some b → base ≤ b := by
  obtain ⟨B, wo, n, h1, h2, h3, h4, h5⟩ := h
  intro b hb
  exact Kd.R_base h5.2 b hb
/-- A block of another type than a writer's own. -/
theorem Fr.keep {w w1 : World} {base g : Nat} {v : Value} {l : List Bool} (hW : Wb w base g v l) (hF : Fr w w1 g v) {k t : Nat} {cs : Array Value} (h : w.heap[k]? = some (.cells cs t (0, 0))) (ht : t ≠ 93) (ht5 : t ≠ 5) : w1.heap[k]? = some (.cells cs t (0, 0)) := by
  obtain ⟨B, wo, n, h1, h2, h3, h4, h5⟩ := hW
  exact (hF.2.2.2.2 k (blk_lt h) (blk_ne h h5.1 ht) (Kd.R_ne h5.2 h ht5.symm)).trans h
theorem Fr.ko {w w1 : World} {base g : Nat} {v : Value} {l : List Bool} (hW : Wb w base g v l) (hF : Fr w w1 g v) : KeepsOthers w w1 := by
  obtain ⟨B, wo, n, h1, h2, h3, h4, h5⟩ := hW
  refine ⟨hF.2.2.2.1, fun k o hk ho => (hF.2.2.2.2 k (Array.getElem?_eq_some_iff.1 hk).1 (fun e => ?_) (fun e => ?_)).trans hk⟩
  · subst e
    rw [h5.1] at hk
    cases hk
    cases ho
  · obtain ⟨_, _, _, q, _, cs, hc⟩ := (Kd.R_bound h5.2).1 k e.symm
    rw [hk] at hc
    cases hc
    cases ho
/-- What stands in memory while groups are written. -/
structure WrS (w0 : World) (gp gw Bs : Nat) (A : Option Addr) (n c : Nat) (v : Value) (l : List Bool) (W : World) : Prop where
  hp : W.heap[gp]? = some (.cells #[.pointer (some ⟨gw, 0, none⟩)] 77 (0, 0))
  hb : W.heap[Bs]? = some (.cells #[.slice A n c] 69 (0, 0))
  wb : Wb W w0.heap.size gw v l
  bl : Below w0.heap.size w0 W
  lw : w0.heap.size ≤ gw
theorem WrS.below {w0 W W1 : World} {gp gw Bs : Nat} {A : Option Addr} {n c : Nat} {v : Value} {l : List Bool} (h : WrS w0 gp gw Bs A n c v l W) (b : Below W.heap.size W W1) : WrS w0 gp gw Bs A n c v l W1 := ⟨blk_below h.hp b, blk_below h.hb b, h.wb.below b, below_step h.bl b, h.lw⟩
theorem WrS.put {w0 W W1 : World} {gp gw Bs : Nat} {A : Option Addr} {n c : Nat} {v v1 : Value} {l l1 : List Bool} (h : WrS w0 gp gw Bs A n c v l W) (hF : Fr W W1 gw v) (hW : Wb W1 w0.heap.size gw v1 l1) : WrS w0 gp gw Bs A n c v1 l1 W1 := ⟨Fr.keep h.wb hF h.hp (by decide) (by decide), Fr.keep h.wb hF h.hb (by decide) (by decide), hW, Fr.join h.bl hF h.lw h.wb.own, h.lw⟩
theorem WrS.own {β : Type} {w0 : World} {gp gw Bs : Nat} {A : Option Addr} {n c B : Nat} {L : β → List Bool} (hB : w0.heap.size ≤ B) : OwnFrom B (fun s W => ∃ v, WrS w0 gp gw Bs A n c v (L s) W) := fun s W W' row ⟨v, h⟩ hg hr => by
  obtain ⟨T, wo, m, h1, h2, h3, h4, h5⟩ := h.wb
  exact ⟨v, blk_grown h.hp hg (ne_cells (r := 0) h.hp hr), blk_grown h.hb hg (ne_cells (r := 0) h.hb hr), ⟨T, wo, m, h1, h2, h3, h4, blk_grown h5.1 hg (ne_cells (r := 0) h5.1 hr), Kd.R_mono (Kd.R_grown (Kd.R_bound h5.2) hg (fun k hk => by obtain ⟨_, _, _, q, _, cs, hc⟩ := hk; exact ne_cells (r := 0) hc hr)) (fun _ _ => trivial)⟩, h.bl.grown hg h.bl.size (fun k e => Nat.le_trans hB (hr k e).1), h.lw⟩
/-- The bits of groups, by their places. -/
def gB (g : Int × Int) : List Bool := nbits g.2.toNat g.1.toNat
def GrOk (zs : List (Int × Int)) : Prop := ∀ g ∈ zs, 0 ≤ g.1 ∧ 0 ≤ g.2 ∧ g.2 ≤ 12 ∧ g.1.toNat < 2 ^ g.2.toNat
def bitsF (zs : List (Int × Int)) (l0 : List Bool) (pre : List Nat) : List Bool := l0 ++ pre.flatMap (fun j => gB (vlG zs j))
theorem bitsF_snoc (zs : List (Int × Int)) (l0 : List Bool) (pre : List Nat) (j : Nat) : bitsF zs l0 (pre ++ [j]) = bitsF zs l0 pre ++ gB (vlG zs j) := by simp [bitsF]
theorem bitsF_len {zs : List (Int × Int)} (h : GrOk zs) (hz : 0 < zs.length) (l0 : List Bool) (pre : List Nat) : (bitsF zs l0 pre).length ≤ l0.length + 12 * pre.length := by
  unfold bitsF
  induction pre with
  | nil => simp
  | cons a t ih =>
    have := h _ (vlG_mem hz a)
    simp only [List.flatMap_cons, List.length_append, gB, nbits_length, List.length_cons] at ih ⊢
    omega
/-- One symbol. -/
def encE (norm : List Int) (nn N : Nat) (f : Nat → Nat) (st : Nat × List (Int × Int)) (s : Int) : Nat × List (Int × Int) :=
  ((stF f N s.toNat).getD ((st.1 + N) / 2 ^ (bL (norm.getD s.toNat 0).toNat (st.1 + N) (nn + 1) 0) - (norm.getD s.toNat 0).toNat) 0,
    st.2 ++ [((((st.1 + N) % 2 ^ (bL (norm.getD s.toNat 0).toNat (st.1 + N) (nn + 1) 0) : Nat) : Int), ((bL (norm.getD s.toNat 0).toNat (st.1 + N) (nn + 1) 0 : Nat) : Int))])
def encF (norm : List Int) (nn N : Nat) (f : Nat → Nat) (l : List Int) (pre : List Nat) : Nat × List (Int × Int) := pre.foldl (fun st j => encE norm nn N f st (vl l j)) (0, [])
theorem encF_snoc (norm : List Int) (nn N : Nat) (f : Nat → Nat) (l : List Int) (pre : List Nat) (j : Nat) : encF norm nn N f l (pre ++ [j]) = encE norm nn N f (encF norm nn N f l pre) (vl l j) := by
  unfold encF
  rw [List.foldl_append]; rfl
/-- Norms that a table can be made of. -/
structure NmOk (norm : List Int) (nn N : Nat) (f : Nat → Nat) : Prop where
  n5 : 5 ≤ nn
  n12 : nn ≤ 12
  hN : 2 ^ nn = N
  len : norm.length ≤ 256
  f_lt : ∀ x, x < N → f x < norm.length
  pos : ∀ s, s < norm.length → 0 ≤ norm.getD s 0 ∧ norm.getD s 0 ≤ (N : Int)
  cnt : ∀ s, s < norm.length → ((stF f N s).length : Int) = norm.getD s 0
  sy : ∀ x, x < N → 0 < norm.getD (f x) 0
theorem bad_not {norm : List Int} {s : Int} (h : badS norm s = false) : 0 ≤ s ∧ s < (norm.length : Int) ∧ norm.getD s.toNat 0 ≠ 0 := by
  unfold badS at h
  rw [Bool.or_eq_false_iff, Bool.or_eq_false_iff] at h
  have h1 := of_decide_eq_false h.1
  have h2 := of_decide_eq_false h.2.1
  exact ⟨by omega, by omega, by simpa using h.2.2⟩
theorem any_mem {norm l : List Int} (h : l.any (badS norm) = false) {s : Int} (hs : s ∈ l) : badS norm s = false := by
  cases e : badS norm s with
  | false => rfl
  | true => rw [List.any_eq_true.2 ⟨s, hs, e⟩] at h; cases h


theorem encF_len (norm : List Int) (nn N : Nat) (f : Nat → Nat) (l : List Int) (pre : List Nat) : (encF norm nn N f l pre).2.length = pre.length := by
  unfold encF
  suffices h : ∀ (pre : List Nat) (st : Nat × List (Int × Int)), (pre.foldl (fun st j => encE norm nn N f st (vl l j)) st).2.length = st.2.length + pre.length by
    rw [h]; simp
  intro pre
  induction pre with
  | nil => intro st; rfl
  | cons a t ih => intro st; rw [List.foldl_cons, ih]; simp [encE]; omega
/-- One step keeps within the states. -/
theorem encE_lt {norm : List Int} {nn N : Nat} {f : Nat → Nat} (hM : NmOk norm nn N f) {st : Nat × List (Int × Int)} {s : Int} (hx : st.1 < N) (hs : badS norm s = false) : (encE norm nn N f st s).1 < N := by
  have hbd := bad_not hs
  obtain ⟨y, rfl⟩ : ∃ y : Nat, s = (y : Int) := ⟨s.toNat, by omega⟩
  have hp := hM.pos y (by omega)
  have hc := hM.cnt y (by omega)
  obtain ⟨m, hm⟩ : ∃ m : Nat, norm.getD y 0 = (m : Int) := ⟨(norm.getD y 0).toNat, by omega⟩
  rw [hm] at hp hc
  have h0 := hbd.2.2
  rw [Int.toNat_natCast, hm] at h0
  have hN := hM.hN
  have hbf := back_fwd (n := nn) (m := m) (x := st.1) (k := bL m (st.1 + 2 ^ nn) (nn + 1) 0) (by omega) (by omega) (by omega) rfl
  unfold encE
  rw [Int.toNat_natCast, hm, Int.toNat_natCast]
  rw [hN] at hbf
  exact (st_back (f := f) (N := N) (s := y) (by omega)).1
theorem encE_ok {norm : List Int} {nn N : Nat} {f : Nat → Nat} (hM : NmOk norm nn N f) {st : Nat × List (Int × Int)} {s : Int} (hx : st.1 < N) (hg : GrOk st.2) (hs : badS norm s = false) : GrOk (encE norm nn N f st s).2 := by
  have hbd := bad_not hs
  obtain ⟨y, rfl⟩ : ∃ y : Nat, s = (y : Int) := ⟨s.toNat, by omega⟩
  have hp := hM.pos y (by omega)
  obtain ⟨m, hm⟩ : ∃ m : Nat, norm.getD y 0 = (m : Int) := ⟨(norm.getD y 0).toNat, by omega⟩
  rw [hm] at hp
  have h0 := hbd.2.2
  rw [Int.toNat_natCast, hm] at h0
  have hN := hM.hN
  have h12 := hM.n12
  have hbf := back_fwd (n := nn) (m := m) (x := st.1) (k := bL m (st.1 + 2 ^ nn) (nn + 1) 0) (by omega) (by omega) (by omega) rfl
  unfold encE
  rw [Int.toNat_natCast, hm, Int.toNat_natCast]
  rw [hN] at hbf
  intro g hgm
  rcases List.mem_append.1 hgm with h | h
  · exact hg g h
  · rw [List.mem_singleton.1 h]
    refine ⟨Int.natCast_nonneg _, Int.natCast_nonneg _, ?_, ?_⟩
    · have := hbf.1
      show ((bL m (st.1 + N) (nn + 1) 0 : Nat) : Int) ≤ 12
      omega
    · show (((st.1 + N) % 2 ^ (bL m (st.1 + N) (nn + 1) 0) : Nat) : Int).toNat < 2 ^ ((bL m (st.1 + N) (nn + 1) 0 : Nat) : Int).toNat
      rw [Int.toNat_natCast, Int.toNat_natCast]
      exact Nat.mod_lt _ (Nat.two_pow_pos _)
theorem encF_ok {norm l : List Int} {nn N : Nat} {f : Nat → Nat} (hM : NmOk norm nn N f) (hb : l.any (badS norm) = false) (pre : List Nat) (hl : 0 < l.length ∨ pre = []) : (encF norm nn N f l pre).1 < N ∧ GrOk (encF norm nn N f l pre).2 := by
  unfold encF
  suffices h : ∀ (pre : List Nat) (st : Nat × List (Int × Int)), (0 < l.length ∨ pre = []) → st.1 < N ∧ GrOk st.2 → (pre.foldl (fun st j => encE norm nn N f st (vl l j)) st).1 < N ∧ GrOk (pre.foldl (fun st j => encE norm nn N f st (vl l j)) st).2 from h _ _ hl ⟨by rw [← hM.hN]; exact Nat.two_pow_pos _, fun _ h => by cases h⟩
  intro pre
  induction pre with
  | nil => intro st _ h; exact h
  | cons a t ih =>
    intro st hl h
    have hl : 0 < l.length := by
      rcases hl with h | h
      · exact h
      · cases h
    have hs := any_mem hb (vl_mem hl a)
    rw [List.foldl_cons]
    exact ih _ (.inl hl) ⟨encE_lt hM h.1 hs, encE_ok hM h.1 h.2 hs⟩
theorem encF_lt {norm l : List Int} {nn N : Nat} {f : Nat → Nat} (hM : NmOk norm nn N f) (hb : l.any (badS norm) = false) (hl : 0 < l.length) (pre : List Nat) : (encF norm nn N f l pre).1 < N := by
  unfold encF
  suffices h : ∀ (pre : List Nat) (st : Nat × List (Int × Int)), st.1 < N → (pre.foldl (fun st j => encE norm nn N f st (vl l j)) st).1 < N from h _ _ (by rw [← hM.hN]; exact Nat.two_pow_pos _)
  intro pre
  induction pre with
  | nil => intro st h; exact h
  | cons a t ih => intro st h; rw [List.foldl_cons]; exact ih _ (encE_lt hM h (any_mem hb (vl_mem hl a)))
/-- What symbols are as bits. -/
def encB (norm : List Int) (nn N : Nat) (f : Nat → Nat) (l : List Int) : List Bool := bitsF (encF norm nn N f l (upto l l.length)).2 (nbits nn (encF norm nn N f l (upto l l.length)).1) (uptoG (encF norm nn N f l (upto l l.length)).2 (encF norm nn N f l (upto l l.length)).2.length)
set_option maxHeartbeats 8000000 in
set_option maxRecDepth 100000 in
theorem enc_main (A0 A1 : Option Addr) (c0 c1 : Nat) (norm l : List Int) (nn N : Nat) (f : Nat → Nat) (kk k2 : Nat) (w : World) (hC : Kd.C (Kd.int .i64) w A0 norm.length norm) (hc0 : norm.length ≤ c0) (hL : Kd.C (Kd.int .i64) w A1 l.length l) (hn : l.length ≤ 1048576) (hk : tans_check.f kk norm (nn : Int) = some 0)
    (hM : NmOk norm nn N f) (hk2 : tans_spread.f k2 norm (nn : Int) = some (tabn N (fun x => (f x : Int)))) (hbad : l.any (badS norm) = false) :
    Calls Try.prog 14 #[.slice A1 l.length c1, .slice A0 norm.length c0, .int .i64 (nn : Int)] w fun r w' => r = .returned (.tuple #[.string (bstr (encB norm nn N f l)), .int .i64 0]) ∧ Below w.heap.size w w' := by
  have HC := Aside0.mk hC
  have HL := Aside0.mk hL
  have HK := Aside0.mk hk
  have HK2 := Aside0.mk hk2
  have HM := Aside0.mk hM
  have HBD := Aside0.mk hbad
  have HN := Aside0.mk (And.intro hn hc0)
  have HN12 := Aside0.mk (show N ≤ 4096 by rw [← hM.hN]; exact Nat.pow_le_pow_right (n := 2) (by decide) hM.n12)
  have t2 : decide (1048576 < l.length) = false := decide_eq_false (by omega)
  have t2b : decide ((1048576 : Int) < (l.length : Int)) = false := decide_eq_false (by omega)
  clear hC hL hk hM hk2 hbad hn hc0
  have XA := Aside0.mk (show (w.alloc (.cells #[.slice A0 norm.length c0] 22)).heap[w.heap.size]? = some (.cells #[.slice A0 norm.length c0] 22 (0, 0)) from blk_new w _)
  have CA := Aside0.mk (below_alloc (Below.refl w.heap.size w) (.cells #[.slice A0 norm.length c0] 22))
  obtain ⟨wa, hwa⟩ : ∃ wa, w.alloc (.cells #[.slice A0 norm.length c0] 22) = wa := ⟨_, rfl⟩
  obtain ⟨gn, hgn⟩ : ∃ gn, w.heap.size = gn := ⟨_, rfl⟩
  rw [hwa] at XA CA
  have HG := Aside0.mk hgn
  rw [hgn] at XA
  have ka : wa.cell? ⟨gn, 0, none⟩ = some (.slice A0 norm.length c0) := (blk_cell XA.out 0).trans rfl
  refine (callsIn_wide (n := 3)).1 ?_
  refine callsIn_of_wp_marks Try.func14 rfl trivial ?_
  refine wpIn_wide.2 ?_
  simp only [Try.ntmps14, List.size_toArray, List.length_cons, List.length_nil, Nat.reduceAdd, Nat.reduceSub, Array.replicate_succ, Array.replicate_zero, List.push_toArray, List.append_toArray, List.nil_append, List.cons_append]
  go_wp2_with (first
    | (simp only [hwa, hgn])
    | (go_at_call 21; (with_reducible refine (tans_check.calls kk A0 c0 norm (nn : Int) 0 _ (Kd.C_below HC.out CA.out) HN.out.2 HK.out).mono ?_); rintro r w1 ⟨rfl, hd⟩; have B0 := Aside0.mk (below_step (Below.refl wa.heap.size wa) (drawn_b hd)); have B1 := Aside0.mk (below_step CA.out (drawn_b hd)); have X1 := Aside0.mk (blk_below XA.out B0.out); clear hd)
    | (go_at_call 33; (with_reducible refine (contains_ok gn A0 A1 c0 c1 norm l w1 X1.out (Kd.C_below HC.out B1.out) (Kd.C_below HL.out B1.out) (by have := HN.out; omega)).mono ?_); rintro r w2 ⟨rfl, hB⟩; rw [HBD.out]; have B2 := Aside0.mk (below_step B1.out hB); have X2 := Aside0.mk (blk_below X1.out hB); have kz2 : w2.cell? ⟨gn, 0, none⟩ = some (.slice A0 norm.length c0) := (blk_cell X2.out 0).trans rfl; clear hB)
    | (go_at_call 23; (with_reducible refine (fresh_ok A0 c0 norm nn N f k2 w2 (Kd.C_below HC.out B2.out) HN.out.2 HK2.out HM.out.f_lt HN12.out HM.out.len).mono ?_); rintro r w3 ⟨g, rfl, hT, hg, hB⟩; have T3 := Aside0.mk hT; have B3 := Aside0.mk (below_step B2.out hB); clear hB hT hg)
    | ((with_reducible refine gate_dst (N := 9) rfl ?_); refine alloc_var rfl rfl infoT (cs := #[.pointer none]) rfl ?_; intro gt w4 G4 X4 B4; have k4 := (blk_cell X4.out 0).trans (rfl : _ = some (Value.pointer none)); have f4 := blk_frozen X4.out 0)
    | ((with_reducible refine gate_dst (N := 10) rfl ?_); refine alloc_var rfl rfl info3 (cs := #[.int .i64 0]) rfl ?_; intro gv w5 G5 X5 B5; have k5 := (blk_cell X5.out 0).trans (rfl : _ = some (Value.int .i64 0)); have f5 := blk_frozen X5.out 0)
    | ((with_reducible refine gate_dst (N := 11) rfl ?_); refine alloc_var rfl rfl infoL (cs := #[.slice none 0 0]) rfl ?_; intro gl w6 G6 X6 B6)
    | (go_at_call 35; (with_reducible refine (Go.Proofs.Ytoondlhlcmjniaa.Bk.backward_ok A1 l.length c1 w6).mono ?_); rintro r w7 ⟨rfl, hw7⟩; have H7 := Aside0.mk hw7; clear hw7))
  have G7 := Aside0.mk (show w3.heap.size ≤ gt ∧ gt < gv ∧ gv < gl ∧ gl < w6.heap.size from by
    have h4 := G4.out
    have h5 := G5.out
    have h6 := G6.out
    have l4 := blk_lt X4.out
    have l5 := blk_lt X5.out
    have l6 := blk_lt X6.out
    simp at h5 h6
    omega)
  have B6' := Aside0.mk (show Below w3.heap.size w3 w6 from below_step (below_set (below_step (below_set B4.out G7.out.1) B5.out) (by have := G7.out; omega)) B6.out)
  obtain ⟨Bs, hBs⟩ : ∃ Bs, w6.heap.size = Bs := ⟨_, rfl⟩
  have E7 := Aside0.mk (show EnS w3 gt gv gl g Bs A1 l.length c1 (encF norm nn N f l []).1 (.slice none 0 0) (.slice none 0 0) (encF norm nn N f l []).2 w7 ∧ Bs < w7.heap.size from by
    have hw7 := H7.out
    subst hw7
    have hb : Below w6.heap.size w6 (w6.alloc (.cells #[.slice A1 l.length c1] 22)) := below_alloc (Below.refl _ _) _
    have hgv := G7.out
    have h5 : w5.heap[gt]? = some (.cells #[.pointer (some ⟨g, 0, none⟩)] 46 (0, 0)) := blk_below (blk_set X4.out 0 (.pointer (some ⟨g, 0, none⟩))) B5.out
    have h6 : w6.heap[gt]? = some (.cells #[.pointer (some ⟨g, 0, none⟩)] 46 (0, 0)) := blk_below (blk_far (p := ⟨gv, 0, none⟩) h5 (show gt ≠ gv by omega) (.int .i64 0)) B6.out
    have h7 : w6.heap[gv]? = some (.cells #[.int .i64 0] 3 (0, 0)) := blk_below (blk_set X5.out 0 (.int .i64 0)) B6.out
    refine ⟨⟨blk_below h6 hb, blk_below h7 hb, blk_below X6.out hb, by rw [← hBs]; exact blk_new w6 _, Kd.R_nil _ _ _ _ _, below_step B6'.out hb, by omega, by omega, by omega, by rw [← hBs]; exact B6'.out.size⟩, by rw [← hBs]; simp⟩)
  have HL7 := Aside0.mk (show ∀ j, j < l.length → ∃ ad : Addr, A1 = some ad ∧ (ad.add j).block < w3.heap.size ∧ w7.cell? (ad.add j) = some (.int .i64 (vl l j)) from fun j hj => by
    obtain ⟨ad, h1, h2⟩ := Kd.at_int (Kd.C_below HL.out B3.out) (j : Int) (by omega) (by omega)
    rw [Int.toNat_natCast, rd_nat] at h2
    have hlt := World.block_lt_of_cell? w3 _ h2
    refine ⟨ad, h1, hlt, (E7.out.1.bl.cell (p := ad.add j) hlt).trans ?_⟩
    rw [h2]
    unfold vl
    rw [List.getD_eq_getElem?_getD, List.getElem?_eq_getElem hj]
    rfl)
  rw [hBs]
  clear X4 B4 k4 f4 G4 X5 B5 k5 f5 G5 X6 B6 G6 hwa ka kz2 X1 X2 B0 B1 B2 t2 t2b H7 XA
  refine (wpIn_wide (n := 3)).1 ?_
  refine wpIn_rangeFunc_ownG (F := Fence.wide) rfl (by decide) (gf := 47) (lb := #[.pointer (some ⟨Bs, 0, none⟩)]) rfl trivial (enters_of Try.func47 (by kernel_rfl) rfl)
    (Go.Proofs.Ytoondlhlcmjniaa.Bk.bk_stops Fence.wide (3 - 1) trivial rfl (by decide) Bs w3.heap.size c1 A1 l (by have := HN.out; omega) w7 E7.out.2 E7.out.1.bl.size E7.out.1.hb HL7.out)
    (fun h h' => KpB.trans h h') (fun W l o o' hl ho hc hw => ⟨belowK_b (w := w7) E7.out.1.bl.size W l o o' hl ho hc hw, fun cs t hz => (World.putObj_heap_other (by have := E7.out.2; omega)).trans hz⟩) (Below.refl _ _) (fun _ => rfl)
    (fun pre W => ∃ v, EnS w3 gt gv gl g Bs A1 l.length c1 (encF norm nn N f l pre).1 v v (encF norm nn N f l pre).2 W) (fun _ _ _ => False) (EnS.own (X := fun pre => (encF norm nn N f l pre).1) (G := fun pre => (encF norm nn N f l pre).2) E7.out.1.bl.size) (fun _ _ _ _ _ hs _ _ => hs) ⟨_, E7.out.1⟩
    (fun x => { tmps := #[.slice A1 l.length c1, .slice A0 norm.length c0, .int .i64 (nn : Int), undef, .pointer (some ⟨gn, 0, none⟩), undef, .string ⟨#[]⟩, .int .i64 0, .int .i64 0, .pointer (some ⟨gt, 0, none⟩), .pointer (some ⟨gv, 0, none⟩), .pointer (some ⟨gl, 0, none⟩), undef, .int .i64 (vl l x), undef, undef, undef, undef, undef,
      .slice A0 norm.length c0, .int .i64 (nn : Int), .int .i64 0, .int .i64 0, .bool false, undef, .slice A1 l.length c1, .int .i64 (l.length : Int), .bool false, .slice A1 l.length c1, .func (.func 34) #[] #[.pointer (some ⟨gn, 0, none⟩)], .bool false, .slice A0 norm.length c0, .int .i64 (nn : Int), .pointer (some ⟨g, 0, none⟩), .slice A1 l.length c1, .func (.func 47) #[] #[.pointer (some ⟨Bs, 0, none⟩)],
      .int .i64 (x : Int), .int .i64 (vl l x), undef, undef, undef, undef, undef, undef, undef, undef, undef, undef, undef, undef, undef, undef, undef, undef, undef, undef, undef, undef, undef, undef, undef, undef, undef, undef, undef, undef, undef, undef], defers := [] }) ?assign ?body ?done ?stop
  case stop =>
    rintro D c pre W _ _ h _
    exact h.elim
  case assign =>
    intro l x W K hK
    gi_wp2
    exact hK
  case body =>
    rintro ll pre xi W ⟨v, hE⟩ hlen
    have E := Aside0.mk hE
    clear hE
    refine wpIn_block ?_
    have hvl : vl l xi ∈ l := vl_mem (by omega) xi
    have hbd := bad_not (any_mem HBD.out hvl)
    obtain ⟨s, hs⟩ : ∃ s : Nat, vl l xi = (s : Int) := ⟨(vl l xi).toNat, by omega⟩
    rw [hs] at hbd
    have hpos := HM.out.pos s (by omega)
    obtain ⟨m, hm⟩ : ∃ m : Nat, norm.getD s 0 = (m : Int) := ⟨(norm.getD s 0).toNat, by omega⟩
    obtain ⟨x0, hx0⟩ : ∃ x0, (encF norm nn N f l pre).1 = x0 := ⟨_, rfl⟩
    obtain ⟨gr, hgr⟩ : ∃ gr, (encF norm nn N f l pre).2 = gr := ⟨_, rfl⟩
    obtain ⟨K, hK⟩ : ∃ K, bL m (x0 + N) (nn + 1) 0 = K := ⟨_, rfl⟩
    obtain ⟨x1, hx1⟩ : ∃ x1, (stF f N s).getD ((x0 + N) / 2 ^ K - m) 0 = x1 := ⟨_, rfl⟩
    obtain ⟨y1, hy1⟩ : ∃ y1, (x0 + N) % 2 ^ K = y1 := ⟨_, rfl⟩
    rw [hx0, hgr] at E
    have HS := Aside0.mk (show s < norm.length ∧ norm.getD s 0 = (m : Int) ∧ 0 < m ∧ m ≤ N ∧ (stF f N s).length = m from ⟨by omega, hm, by
      have := hbd.2.2
      rw [Int.toNat_natCast, hm] at this
      omega, by rw [hm] at hpos; omega, by
      have := HM.out.cnt s (by omega)
      rw [hm] at this
      omega⟩)
    have HX := Aside0.mk (show x0 < N from by
      rw [← hx0]
      exact encF_lt HM.out HBD.out (by omega) pre)
    have HGR := Aside0.mk (show gr.length = pre.length ∧ gr.length < l.length ∧ (gr.length + 1) * 16 ≤ 140737488355328 from by
      have e : gr.length = pre.length := by rw [← hgr, encF_len]
      have := HN.out
      exact ⟨e, by omega, by omega⟩)
    have HEN := Aside0.mk (show encF norm nn N f l (pre ++ [xi]) = (x1, gr ++ [((y1 : Int), (K : Int))]) from by
      rw [encF_snoc, encE, hs, Int.toNat_natCast, hm, Int.toNat_natCast, hx0, hgr, hK, hx1, hy1])
    have HT := Aside0.mk (T3.out.below E.out.bl)
    have HBK := Aside0.mk (back_ok g nn A0 c0 norm N f x0 s m K W HT.out HM.out.n12 HM.out.hN HX.out HS.out.1 HS.out.2.1 HS.out.2.2.1 HS.out.2.2.2.1 HS.out.2.2.2.2 hK)
    rw [hx1, hy1] at HBK
    rw [hs]
    clear hvl hbd hs hpos hm hx0 hgr hK hlen HBD HK HK2 HC HL HL7 hx1 hy1
    have kt := (blk_cell E.out.ht 0).trans (rfl : _ = some (Value.pointer (some ⟨g, 0, none⟩)))
    have kv := (blk_cell E.out.hv 0).trans (rfl : _ = some (Value.int .i64 (x0 : Int)))
    refine seq_in (by rintro ⟨_, _, h⟩; exact h) (by rfl) ?_
    go_wp2_with (first
      | (go_at_call 36; (with_reducible refine HBK.out.mono ?_); rintro r w8 ⟨rfl, hB⟩; have B8 := Aside0.mk hB; clear hB))
    obtain ⟨kG, hkG⟩ : ∃ k, w8.heap.size = k := ⟨_, rfl⟩
    obtain ⟨w9, hw9⟩ : ∃ w9, w8.alloc (.cells #[.int .u64 (y1 : Int), .int .i64 (K : Int)] 74) = w9 := ⟨_, rfl⟩
    have X9 := Aside0.mk (show w9.heap[kG]? = some (.cells #[.int .u64 (y1 : Int), .int .i64 (K : Int)] 74 (0, 0)) from by rw [← hw9, ← hkG]; exact blk_new w8 _)
    have C9 := Aside0.mk (show Below W.heap.size W w9 from by rw [← hw9]; exact below_step B8.out (below_alloc (Below.refl _ _) _))
    rw [hkG, hw9]
    have E9 := Aside0.mk (E.out.below C9.out)
    obtain ⟨A, c, eA⟩ := Kd.R_slice E9.out.rl
    subst eA
    clear kt kv hw9 hkG HBK
    have kl := (blk_cell E9.out.hl 0).trans (rfl : _ = some (Value.slice A gr.length c))
    have kg0 := (blk_cell X9.out 0).trans (rfl : _ = some (Value.int .u64 (y1 : Int)))
    have kg1 := (blk_cell X9.out 1).trans (rfl : _ = some (Value.int .i64 (K : Int)))
    have rg := range2 kg0 kg1
    refine seq_in (by rintro ⟨_, _, h⟩; exact h) (by rfl) ?_
    go_wp2_with (first
      | ((with_reducible refine gate_builtin (b := .append) (xs := #[.tmp 45, .tmp 47]) rfl ?_); at_builtin; refine Kd.R_append Gd (w0 := w3) w3.heap.size rfl (.tmp 45) (.tmp 47) 69 74 (.agg #[.int .u64 0, .int .i64 0]) 16 rfl Try.underlying69 infoG rfl (by decide) (by decide) (.slice A gr.length c) gr ((y1 : Int), (K : Int)) [.int .u64 (y1 : Int), .int .i64 (K : Int)] (fun _ => True) (fun _ => False) rfl (by first | (go_simp; done) | (go_simp; rfl)) ?aP (fun _ hk => hk.elim) (fun _ _ => trivial) ?aO ?aB ?aS ?aL ?_; (case aP => exact ⟨[_], [_], rfl, rfl, rfl⟩); (case aO => exact E9.out.rl); (case aB => exact E9.out.bl); (case aS => exact E9.out.bl.size); (case aL => exact HGR.out.2.2); intro v1 w10 ho hb hg ha; obtain ⟨A2, c2, e2⟩ := Kd.R_slice ho; rw [show (gr ++ [((y1 : Int), (K : Int))]).length = gr.length + 1 from by simp] at e2; subst e2; have E10 := Aside0.mk (E9.out.app ho hg); have K10 := Aside0.mk (ko_row E9.out.rl hg); have kf := blk_frozen E10.out.hl 0; have kl2 := (blk_cell E10.out.hl 0).trans (rfl : _ = some (Value.slice A gr.length c)); clear ho hb hg ha))
    obtain ⟨w11, hw11⟩ : ∃ w11, w10.setCell ⟨gl, 0, none⟩ (.slice A2 (gr.length + 1) c2) = w11 := ⟨_, rfl⟩
    have E11 := Aside0.mk (show EnS w3 gt gv gl g Bs A1 l.length c1 x0 (.slice A2 (gr.length + 1) c2) (.slice A2 (gr.length + 1) c2) (gr ++ [((y1 : Int), (K : Int))]) w11 ∧ KeepsOthers w10 w11 from by rw [← hw11]; exact ⟨E10.out.setl, KeepsOthers.setCell _ _ _⟩)
    rw [hw11]
    clear hw11 kf kl kg0 kg1 rg kl2
    have kf := blk_frozen E11.out.1.hv 0
    have kl := (blk_cell E11.out.1.hv 0).trans (rfl : _ = some (Value.int .i64 (x0 : Int)))
    refine reg_in (by rintro ⟨_, _, h⟩; exact h) (by rfl) ?_
    go_wp2
    have E12 := E11.out.1.setv (y := x1)
    have hk : KeepsOthers W (w11.setCell ⟨gv, 0, none⟩ (.int .i64 (x1 : Int))) := ((ko_below C9.out).trans (K10.out.trans E11.out.2)).trans (KeepsOthers.setCell _ _ _)
    refine ⟨hk.from _, ⟨?_, fun cs t hz => ?_⟩, ?_⟩
    · exact below_of E.out.bl E12.bl hk.size
    · rw [E.out.hb] at hz
      cases hz
      exact E12.hb
    · show ∃ v, EnS w3 gt gv gl g Bs A1 l.length c1 (encF norm nn N f l (pre ++ [xi])).1 v v (encF norm nn N f l (pre ++ [xi])).2 _
      rw [HEN.out]
      exact ⟨_, E12⟩
  case done =>
    rintro D ys W hD rfl ⟨v, hE⟩ hK
    obtain ⟨zs, hzs⟩ : ∃ zs, (encF norm nn N f l (upto l l.length)).2 = zs := ⟨_, rfl⟩
    obtain ⟨xF, hxF⟩ : ∃ xF, (encF norm nn N f l (upto l l.length)).1 = xF := ⟨_, rfl⟩
    rw [hzs, hxF] at hE
    have HE := Aside0.mk (show encF norm nn N f l (upto l l.length) = (xF, zs) from by rw [← hzs, ← hxF])
    have E := Aside0.mk hE
    obtain ⟨A, c, rfl, hgr⟩ := groups_at hE.rl
    have HG2 := Aside0.mk hgr
    have HKD := Aside0.mk (And.intro hD hK)
    have HXF := Aside0.mk (show nn ≤ 12 ∧ xF < 2 ^ nn ∧ GrOk zs ∧ zs.length = l.length from by
      have h := encF_ok HM.out HBD.out (upto l l.length) (by
        rcases Nat.eq_zero_or_pos l.length with h0 | h0
        · right; rw [h0]; rfl
        · exact .inl h0)
      rw [HE.out] at h
      exact ⟨HM.out.n12, by rw [HM.out.hN]; exact h.1, h.2, by rw [← hzs, encF_len, upto_length]⟩)
    clear hE hgr hD hK hzs hxF HL HL7 HK HK2 HBD HC
    have kv := (blk_cell E.out.hv 0).trans (rfl : _ = some (Value.int .i64 (xF : Int)))
    have HWX := Aside0.mk (show IntKind.u64.wrap (xF : Int) = (xF : Int) from by
      have h1 := HXF.out
      have h2 := Nat.pow_le_pow_right (n := 2) (by decide) h1.1
      exact wu64 (by omega) (by omega))
    go_wp2_with (first
      | (simp only [hw9, hgp])
      | (go_at_call 37; (with_reducible refine (New_ok W).mono ?_); rintro r w8 ⟨gw, rfl, hW, hg, hB⟩; have W8 := Aside0.mk hW; have G8 := Aside0.mk hg; have B8 := Aside0.mk hB; clear hW hg hB; obtain ⟨gp, hgp⟩ : ∃ gp, w8.heap.size = gp := ⟨_, rfl⟩; obtain ⟨w9, hw9⟩ : ∃ w9, w8.alloc (.cells #[.pointer (some ⟨gw, 0, none⟩)] 77) = w9 := ⟨_, rfl⟩;
          have B9 := Aside0.mk (show Below w8.heap.size w8 w9 from by rw [← hw9]; exact below_alloc (Below.refl _ _) _); have X9 := Aside0.mk (show w9.heap[gp]? = some (.cells #[.pointer (some ⟨gw, 0, none⟩)] 77 (0, 0)) from by rw [← hw9, ← hgp]; exact blk_new w8 _);
          have kp9 := (blk_cell X9.out 0).trans (rfl : _ = some (Value.pointer (some ⟨gw, 0, none⟩))); have E9 := Aside0.mk (E.out.below (below_step B8.out B9.out)); have kv9 := (blk_cell E9.out.hv 0).trans (rfl : _ = some (Value.int .i64 (xF : Int))); have W9 := Aside0.mk (wb_new (W8.out.below B9.out)); clear kv)
      | (go_at_call 38; rw [HWX.out]; (with_reducible refine (Put_n gw (.slice none 0 0) [] xF nn W.heap.size w9 W9.out G8.out HXF.out.1 HXF.out.2.1 (by simp)).mono ?_); rintro r w10 ⟨v10, rfl, hW, hF⟩; have W10 := Aside0.mk hW; have F10 := Aside0.mk hF; clear hW hF; have S10 := Aside0.mk (show Below W.heap.size W w10 from Fr.join (below_step B8.out B9.out) F10.out G8.out W9.out.own); have E10 := Aside0.mk (E.out.below S10.out); have kl10 := (blk_cell E10.out.hl 0).trans (rfl : _ = some (Value.slice A zs.length c)); have X10 := Aside0.mk (Fr.keep W9.out F10.out X9.out (by decide) (by decide)))
      | (go_at_call 39; (with_reducible refine (Go.Proofs.Ytoondlhlcmjniaa.Bg.backward_ok A zs.length c w10).mono ?_); rintro r w11 ⟨rfl, hw11⟩; have H11 := Aside0.mk hw11; clear hw11))
    obtain ⟨B2, hB2⟩ : ∃ b, w10.heap.size = b := ⟨_, rfl⟩
    have S11 := Aside0.mk (show WrS W gp gw B2 A zs.length c v10 (bitsF zs (nbits nn xF) []) w11 ∧ B2 < w11.heap.size ∧ Below w10.heap.size w10 w11 from by
      have hw11 := H11.out
      subst hw11
      have hb : Below w10.heap.size w10 (w10.alloc (.cells #[.slice A zs.length c] 69)) := below_alloc (Below.refl _ _) _
      have h10 := W10.out
      rw [List.nil_append] at h10
      have e : bitsF zs (nbits nn xF) [] = nbits nn xF := by simp [bitsF]
      rw [e]
      exact ⟨⟨blk_below X10.out hb, by rw [← hB2]; exact blk_new w10 _, h10.below hb, below_step S10.out hb, G8.out⟩, by rw [← hB2]; simp, hb⟩)
    rw [hB2]
    have HG3 := Aside0.mk (show ∀ j, j < zs.length → ∃ b, A = some ⟨b, 0, none⟩ ∧ b < W.heap.size ∧ w11.cell? ⟨b, j * 2, none⟩ = some (.int .u64 (vlG zs j).1) ∧ w11.cell? ⟨b, j * 2 + 1, none⟩ = some (.int .i64 (vlG zs j).2) from fun j hj => by
      obtain ⟨b, h1, h2, h3, h4⟩ := HG2.out j hj
      exact ⟨b, h1, h2, (S11.out.1.bl.cell (p := ⟨b, j * 2, none⟩) h2).trans h3, (S11.out.1.bl.cell (p := ⟨b, j * 2 + 1, none⟩) h2).trans h4⟩)
    have HKD2 := Aside0.mk (show w3.heap.size ≤ D ∧ w11.heap[D]? = some (.deferred (some [])) ∧ D < W.heap.size from ⟨Nat.le_trans E7.out.1.bl.size HKD.out.1, (S11.out.1.bl.block D (Array.getElem?_eq_some_iff.1 HKD.out.2).1).trans HKD.out.2, (Array.getElem?_eq_some_iff.1 HKD.out.2).1⟩)
    clear hgp hw9 kp9 kv9 kl10 HWX H11 HG2 W8 B8 W9 B9 X9 E9 F10 E10 X10 HKD
    refine (wpIn_wide (n := 3)).1 ?_
    refine wpIn_rangeFunc_ownH (F := Fence.wide) rfl (by decide) (gf := 49) (lb := #[.pointer (some ⟨B2, 0, none⟩)]) rfl trivial (enters_of Try.func49 (by kernel_rfl) rfl)
      (Go.Proofs.Ytoondlhlcmjniaa.Bg.bk_stops Fence.wide (3 - 1) trivial rfl (by decide) B2 W.heap.size c A zs (by have := HXF.out; have := HN.out; omega) w11 S11.out.2.1 S11.out.1.bl.size S11.out.1.hb HG3.out)
      (fun h h' => KpB.trans h h') (fun W' l o o' hl ho hc hw => ⟨belowK_b (w := w11) S11.out.1.bl.size W' l o o' hl ho hc hw, fun cs t hz => (World.putObj_heap_other (by have := S11.out.2.1; omega)).trans hz⟩) (Below.refl _ _) (fun _ => rfl)
      (fun pre W' => ∃ v, WrS W gp gw B2 A zs.length c v (bitsF zs (nbits nn xF) pre) W') (fun _ _ _ => False) (WrS.own (L := fun pre => bitsF zs (nbits nn xF) pre) S11.out.1.bl.size) (fun _ _ _ _ _ hs _ _ => hs) ⟨_, S11.out.1⟩
      (fun x a' W' => ∃ gk : Nat, a' = { tmps := #[.slice A1 l.length c1, .slice A0 norm.length c0, .int .i64 (nn : Int), undef, .pointer (some ⟨gn, 0, none⟩), undef, .string ⟨#[]⟩, .int .i64 0, .int .i64 0, .pointer (some ⟨gt, 0, none⟩), .pointer (some ⟨gv, 0, none⟩), .pointer (some ⟨gl, 0, none⟩), undef, undef, undef, undef, .pointer (some ⟨gp, 0, none⟩), undef, .pointer (some ⟨gk, 0, none⟩),
        .slice A0 norm.length c0, .int .i64 (nn : Int), .int .i64 0, .int .i64 0, .bool false, undef, .slice A1 l.length c1, .int .i64 (l.length : Int), .bool false, .slice A1 l.length c1, .func (.func 34) #[] #[.pointer (some ⟨gn, 0, none⟩)], .bool false, .slice A0 norm.length c0, .int .i64 (nn : Int), .pointer (some ⟨g, 0, none⟩), .slice A1 l.length c1, .func (.func 47) #[] #[.pointer (some ⟨Bs, 0, none⟩)],
        undef, undef, undef, undef, undef, undef, undef, undef, undef, undef, undef, undef, undef, undef, .pointer (some ⟨gw, 0, none⟩), .pointer (some ⟨gw, 0, none⟩), .int .i64 (xF : Int), .int .u64 (xF : Int), .int .i64 (nn : Int), .int .i64 0, .slice A zs.length c, .func (.func 49) #[] #[.pointer (some ⟨B2, 0, none⟩)],
        .int .i64 (x : Int), .agg #[.int .u64 (vlG zs x).1, .int .i64 (vlG zs x).2], undef, undef, undef, undef, undef, undef, undef, undef], defers := [] } ∧ W'.heap[gk]? = some (.cells #[.int .u64 (vlG zs x).1, .int .i64 (vlG zs x).2] 74 (0, 0)))
      (fun x a' _ W1 W2 row h hg hr => by
        obtain ⟨gk, h1, h2⟩ := h
        exact ⟨gk, h1, blk_grown h2 hg (ne_cells (r := 0) h2 hr)⟩) ?assign2 ?body2 ?done2 ?stop2
    case stop2 =>
      rintro D c pre W _ _ h _
      exact h.elim
    case assign2 =>
      rintro ll pre x W' K ⟨v, hS⟩ hK
      obtain ⟨g1, hg1⟩ : ∃ g1, (vlG zs x).1 = g1 := ⟨_, rfl⟩
      obtain ⟨g2, hg2⟩ : ∃ g2, (vlG zs x).2 = g2 := ⟨_, rfl⟩
      rw [hg1, hg2] at hK ⊢
      have hb : Below W'.heap.size W' (W'.alloc (.cells #[.int .u64 g1, .int .i64 g2] 74)) := below_alloc (Below.refl _ _) _
      have h1 := hK _ (W'.alloc (.cells #[.int .u64 g1, .int .i64 g2] 74)) ((ko_below hb).from _) ⟨(hb.mono (hS.bl.size)), fun cs t hz => blk_below hz hb⟩ ⟨v, hS.below hb⟩ ⟨W'.heap.size, rfl, blk_new W' _⟩
      clear hK hS hb
      gi_wp2
      exact h1
    case body2 =>
      rintro ll pre x a' W' _ _ ⟨v, hS⟩ ⟨gk, rfl, hk⟩ hlen
      have S := Aside0.mk hS
      have XK := Aside0.mk hk
      obtain ⟨g1, hg1⟩ : ∃ g1 : Nat, (vlG zs x).1 = (g1 : Int) := ⟨(vlG zs x).1.toNat, by have := HXF.out.2.2.1 _ (vlG_mem (by omega) x); omega⟩
      obtain ⟨g2, hg2⟩ : ∃ g2 : Nat, (vlG zs x).2 = (g2 : Int) := ⟨(vlG zs x).2.toNat, by have := HXF.out.2.2.1 _ (vlG_mem (by omega) x); omega⟩
      have HV := Aside0.mk (show g2 ≤ 12 ∧ g1 < 2 ^ g2 ∧ gB (vlG zs x) = nbits g2 g1 ∧ (bitsF zs (nbits nn xF) pre).length ≤ 1099511627776 from by
        have h := HXF.out.2.2.1 _ (vlG_mem (by omega) x)
        rw [hg1, hg2, Int.toNat_natCast, Int.toNat_natCast] at h
        have h2 := bitsF_len HXF.out.2.2.1 (by omega) (nbits nn xF) pre
        rw [nbits_length] at h2
        have h3 := HXF.out
        have h4 := HN.out
        exact ⟨by omega, h.2.2.2, by unfold gB; rw [hg1, hg2, Int.toNat_natCast, Int.toNat_natCast], by omega⟩)
      rw [hg1, hg2] at XK ⊢
      have kp := (blk_cell S.out.hp 0).trans (rfl : _ = some (Value.pointer (some ⟨gw, 0, none⟩)))
      have k1 := (blk_cell XK.out 0).trans (rfl : _ = some (Value.int .u64 (g1 : Int)))
      have k2 := (blk_cell XK.out 1).trans (rfl : _ = some (Value.int .i64 (g2 : Int)))
      clear hS hk hg1 hg2 hlen
      refine wpIn_block ?_
      refine reg_in (by rintro ⟨_, _, h⟩; exact h) (by rfl) ?_
      go_wp2_with (first
        | (go_at_call 38; (with_reducible refine (Put_n gw v (bitsF zs (nbits nn xF) pre) g1 g2 W.heap.size W' S.out.wb S.out.lw HV.out.1 HV.out.2.1 HV.out.2.2.2).mono ?_); rintro r w12 ⟨v12, rfl, hW, hF⟩; have W12 := Aside0.mk hW; have F12 := Aside0.mk hF; clear hW hF))
      have S12 := S.out.put F12.out W12.out
      refine ⟨(Fr.ko S.out.wb F12.out).from _, ⟨below_of S.out.bl S12.bl F12.out.2.2.2.1, fun cs t hz => ?_⟩, ?_⟩
      · rw [S.out.hb] at hz
        cases hz
        exact S12.hb
      · show ∃ v, WrS W gp gw B2 A zs.length c v (bitsF zs (nbits nn xF) (pre ++ [x])) w12
        rw [bitsF_snoc, HV.out.2.2.1]
        exact ⟨_, S12⟩
    case done2 =>
      rintro D2 ys W2 hD2 rfl ⟨v, hS⟩ hK2
      have S := Aside0.mk hS
      have HD := Aside0.mk (And.intro hD2 hK2)
      have HLN := Aside0.mk (show (bitsF zs (nbits nn xF) (uptoG zs zs.length)).length ≤ 1099511627776 from by
        have h2 : (bitsF zs (nbits nn xF) (uptoG zs zs.length)).length ≤ (nbits nn xF).length + 12 * (uptoG zs zs.length).length := by
          rcases Nat.eq_zero_or_pos zs.length with h0 | h0
          · rw [h0]; simp [bitsF, uptoG]
          · exact bitsF_len HXF.out.2.2.1 h0 _ _
        rw [nbits_length, uptoG_length] at h2
        have h3 := HXF.out
        have h4 := HN.out
        omega)
      have kp := (blk_cell S.out.hp 0).trans (rfl : _ = some (Value.pointer (some ⟨gw, 0, none⟩)))
      clear hS hD2 hK2
      go_wp2_with (first
        | (go_at_call 40; (with_reducible refine (Bytes_b gw v _ W.heap.size W2 S.out.wb HLN.out).mono ?_); rintro r w13 ⟨rfl, hB⟩; have B13 := Aside0.mk hB; clear hB))
      have hb13 := below_step S.out.bl B13.out
      have k2 : w13.heap[D2]? = some (.deferred (some [])) := (B13.out.block D2 (Array.getElem?_eq_some_iff.1 HD.out.2).1).trans HD.out.2
      have h3 : W.heap.size ≤ D2 := Nat.le_trans S11.out.1.bl.size HD.out.1
      have k3 : (w13.putObj D2 (.deferred none)).heap[D]? = some (.deferred (some [])) := (World.putObj_heap_other (by have := HKD2.out; omega)).trans ((hb13.block D (by have := HKD2.out; omega)).trans ((S11.out.1.bl.block D HKD2.out.2.2).symm.trans HKD2.out.2.1))
      refine ⟨by simp, .inl ⟨_, _, rfl, run_takeDeferred k2, by simp, .inl ⟨_, _, rfl, run_takeDeferred k3, ?_⟩⟩⟩
      have h4 : w.heap.size ≤ W.heap.size := Nat.le_trans B3.out.size E.out.bl.size
      have hb : Below w.heap.size w w13 := below_step (below_step B3.out E.out.bl) hb13
      have hb2 : Below w.heap.size w (w13.putObj D2 (.deferred none)) := hb.grown (grownBy_putObj' w13 D2 (.deferred none)) hb.size (fun k e => by cases e; omega)
      have eB : encB norm nn N f l = bitsF zs (nbits nn xF) (uptoG zs zs.length) := by unfold encB; rw [HE.out]
      rw [eB]
      exact ⟨_, results_tmp2 rfl _ _ _, rfl, hb2.grown (grownBy_putObj' _ D (.deferred none)) hb2.size (fun k e => by cases e; have := HKD2.out; have := B3.out.size; omega)⟩
end Go.Proofs.Ytoondlhlcmjniaa.Hd
