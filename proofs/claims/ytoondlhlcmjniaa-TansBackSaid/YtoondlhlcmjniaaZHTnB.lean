/- tans: the table of norms (fresh), walked by hand: rows of states that grow. -/
import Derived.Test.YtoondlhlcmjniaaZHTnA
import Derived.Test.YtoondlhlcmjniaaZPureTn
import Derived.Test.YtoondlhlcmjniaaZByt
import Derived.Test.YtoondlhlcmjniaaZPx4
import Derived.StillTailTactics
set_option linter.unusedVariables false
set_option linter.unusedSimpArgs false
set_option linter.unusedSectionVars false
namespace Go.Proofs.Ytoondlhlcmjniaa.Hd
open Go Go.RowKit Go.Proofs.YtoondlhlcmjniaaW.PrintWords Go.Proofs.YtoondlhlcmjniaaW.PrintLast Go.Proofs.YtoondlhlcmjniaaW.PrintMore Go.Proofs.Ytoondlhlcmjniaa.Hw Go.Proofs.Ytoondlhlcmjniaa.Com Go.Proofs.Ytoondlhlcmjniaa.Cn Go.Proofs.Ytoondlhlcmjniaa.P Go.Proofs.Ytoondlhlcmjniaa.Tn
attribute [local go_sem] max2_int min2_int max_two min_two max_three min_three max_four min_four
theorem info3 : (Try.prog.info? 3).map (fun i => (i.zero, i.size, i.bytes)) = some (some (.int .i64 0), 1, 8) := by kernel_rfl
theorem info22 : (Try.prog.info? 22).map (fun i => (i.zero, i.size, i.bytes)) = some (some (.slice none 0 0), 1, 24) := by kernel_rfl
theorem one_at {α : Type} {enc : α → Value} {h1 : ∀ x, (enc x).oneCell' = true} {W : World} {k : Nat} {e : TypeId} {x : α} (h : W.heap[k]? = some (.cells #[enc x] e (0, 0))) : (Kd.scalar enc h1).C W (some ⟨k, 0, none⟩) 1 [x] := by
  refine ⟨rfl, by decide, fun _ => ⟨_, rfl, fun j p hj => ?_⟩⟩
  obtain rfl : j = 0 := by
    rcases j with _ | j
    · rfl
    · simp at hj
  obtain rfl : x = p := by simpa using hj
  refine ⟨[enc x], rfl, rfl, fun i u hu => ?_⟩
  rcases i with _ | i
  · simp at hu
    subst hu
    show W.cell? ((⟨k, 0, none⟩ : Addr).add (0 * 1 + 0)) = _
    rw [add_plain]
    exact (blk_cell h 0).trans rfl
  · simp at hu
/-- A row of values by its places. -/
def tabV (m : Nat) (f : Nat → Value) : Array Value := ((List.range m).map f).toArray
theorem tabV_size (m : Nat) (f : Nat → Value) : (tabV m f).size = m := by simp [tabV]
theorem tabV_get {m : Nat} {f : Nat → Value} {j : Nat} (h : j < m) : (tabV m f)[j]? = some (f j) := by simp [tabV, List.getElem?_range h]
theorem tabV_set {m : Nat} {f : Nat → Value} (j : Nat) (v : Value) : (tabV m f).setIfInBounds j v = tabV m (fun i => if i = j then v else f i) := by
  apply Array.ext_getElem?
  intro i
  rw [Array.getElem?_setIfInBounds]
  by_cases hi : i < m
  · rw [tabV_size, tabV_get (f := fun i => if i = j then v else f i) hi]
    by_cases e : j = i
    · rw [if_pos e, if_pos (by omega), if_pos e.symm]
    · rw [if_neg e, tabV_get hi, if_neg (fun z => e z.symm)]
  · rw [tabV_size]
    have h1 : (tabV m f)[i]? = none := Array.getElem?_eq_none (by rw [tabV_size]; omega)
    have h2 : (tabV m (fun i => if i = j then v else f i))[i]? = none := Array.getElem?_eq_none (by rw [tabV_size]; omega)
    rw [h1, h2]
    split
    · rw [if_neg (by omega)]
    · rfl
theorem made_tab (z : Value) (m : Nat) : madeCells #[z] m = tabV m (fun _ => z) := by
  apply Array.ext_getElem?
  intro i
  by_cases hi : i < m
  · rw [tabV_get hi]
    simp [madeCells, Array.getElem?_range, hi, Nat.mod_one]
  · have h2 : (tabV m (fun _ => z))[i]? = none := Array.getElem?_eq_none (by rw [tabV_size]; omega)
    rw [h2]
    simp [madeCells, Array.getElem?_range, hi]
section
variable {P : Program} {ops : Array Oper} {o : Oper} {a : Act} {Q : Exit → Act → World → Prop}
theorem make_run {W : World} {t e : TypeId} {x y : Operand} {z : Value} (ho : o.op = .makeSlice t x y) (n : Nat) (hx : a.eval x = .int .i64 (n : Int)) (hy : a.eval y = .int .i64 (n : Int))
    (ht : P.underlying t = some (.slice e)) {bytes : Nat} (hinfo : (P.info? e).map (fun i => (i.zero, i.size, i.bytes)) = some (some z, 1, bytes)) (hz : z.cells = #[z]) (hb0 : 0 < bytes) (hn : n * bytes ≤ 281474976710656) :
    (execOp a.eval o).run P W = .ok (.value (.slice (some ⟨W.heap.size, 0, none⟩) n n)) (W.alloc (.cells (tabV n (fun _ => z)) e)) := by
  have hr := print_make_of (P := P) t e z bytes ht hinfo hz hb0 n hn W
  rw [made_tab] at hr
  simp [execOp, ho, hx, hy, hr]
theorem lit_step {oi : Oper} {N : Option Tmp} {W : World} {K : Act → World → Prop} {cs : Array Value} {e : TypeId} {n : Nat} (hw : Region.wanted oi (yielded ops a.tmps) = true) (hN : oi.dst = N) (hr : (execOp a.eval oi).run P W = .ok (.value (.slice (some ⟨W.heap.size, 0, none⟩) n n)) (W.alloc (.cells cs e)))
    (h : ∀ k W1, k = W.heap.size → W1.heap[k]? = some (.cells cs e (0, 0)) → Below W.heap.size W W1 → K (a.put N (.slice (some ⟨k, 0, none⟩) n n)) W1) : if Region.wanted oi (yielded ops a.tmps) = true then Oper.wp P oi a W K Q else K (a.put N undef) W :=
  value_ hw hN hr (h _ _ rfl (blk_new W _) (below_alloc (Below.refl _ _) _))
end
/-- The table while it is made; own tells whose row a block is (0: the symbols', 1: the ranks', s + 2: the states of s). -/
structure FrS (w : World) (gx gs m n : Nat) (A0 : Option Addr) (c0 l0 : Nat) (own : Nat → Nat) (v2 v3 : Value) (vs : Nat → Value) (SY RK : List Int) (ST : Nat → List Int) (W : World) : Prop where
  hx : W.heap[gx]? = some (.cells #[.int .i64 (n : Int), .slice A0 l0 c0, v2, v3, .slice (some ⟨gs, 0, none⟩) m m] 55 (0, 0))
  hs : W.heap[gs]? = some (.cells (tabV m vs) 22 (0, 0))
  r2 : Kd.R (Kd.int .i64) 3 W w.heap.size (fun k => own k = 0) v2 SY
  r3 : Kd.R (Kd.int .i64) 3 W w.heap.size (fun k => own k = 1) v3 RK
  rs : ∀ s, s < m → Kd.R (Kd.int .i64) 3 W w.heap.size (fun k => own k = s + 2) (vs s) (ST s)
  bl : Below w.heap.size w W
  lx : w.heap.size ≤ gx
  ls : w.heap.size ≤ gs
section
variable {w W W1 : World} {gx gs m n c0 l0 : Nat} {A0 : Option Addr} {own : Nat → Nat} {v2 v3 v : Value} {vs : Nat → Value} {SY RK l : List Int} {ST : Nat → List Int}
theorem FrS.bs (h : FrS w gx gs m n A0 c0 l0 own v2 v3 vs SY RK ST W) : w.heap.size ≤ W.heap.size := h.bl.size
theorem FrS.below (h : FrS w gx gs m n A0 c0 l0 own v2 v3 vs SY RK ST W) (b : Below W.heap.size W W1) : FrS w gx gs m n A0 c0 l0 own v2 v3 vs SY RK ST W1 :=
  ⟨blk_below h.hx b, blk_below h.hs b, Kd.R_below h.r2 b, Kd.R_below h.r3 b, fun s hs => Kd.R_below (h.rs s hs) b, below_step h.bl b, h.lx, h.ls⟩
/-- What is new belongs to a row of one's choice. -/
def ownN (own : Nat → Nat) (B i k : Nat) : Nat := if k < B then own k else i
theorem own_R {j i : Nat} (h : Kd.R (Kd.int .i64) 3 W w.heap.size (fun k => own k = j) v l) : Kd.R (Kd.int .i64) 3 W w.heap.size (fun k => ownN own W.heap.size i k = j) v l :=
  Kd.R_mono (Kd.R_bound h) (fun k hk => by unfold ownN; rw [if_pos hk.2.2.1]; exact hk.1)
theorem FrS.give (h : FrS w gx gs m n A0 c0 l0 own v2 v3 vs SY RK ST W) (i : Nat) : FrS w gx gs m n A0 c0 l0 (ownN own W.heap.size i) v2 v3 vs SY RK ST W :=
  ⟨h.hx, h.hs, own_R h.r2, own_R h.r3, fun s hs => own_R (h.rs s hs), h.bl, h.lx, h.ls⟩
theorem own_fresh (own : Nat → Nat) (B i : Nat) : ∀ k, B ≤ k → ownN own B i k = i := fun k hk => by unfold ownN; rw [if_neg (by omega)]
theorem own_grown {i j : Nat} {u : Value} {l' : List Int} (hij : i ≠ j) (h : Kd.R (Kd.int .i64) 3 W w.heap.size (fun k => own k = j) v l) (hu : Kd.R (Kd.int .i64) 3 W w.heap.size (fun k => own k = i) u l') (g : W.grownBy W1 u.ownBlock) : Kd.R (Kd.int .i64) 3 W1 w.heap.size (fun k => own k = j) v l :=
  Kd.R_grown h g (fun k hk e => hij ((hu.1 k e.symm).symm.trans hk))
/-- A row of ranks that has grown: its value is to be stored. -/
structure FrA (w : World) (gx gs m n : Nat) (A0 : Option Addr) (c0 l0 : Nat) (own : Nat → Nat) (v2 vr v3 : Value) (vs : Nat → Value) (SY RK : List Int) (ST : Nat → List Int) (W : World) : Prop where
  hx : W.heap[gx]? = some (.cells #[.int .i64 (n : Int), .slice A0 l0 c0, v2, vr, .slice (some ⟨gs, 0, none⟩) m m] 55 (0, 0))
  hs : W.heap[gs]? = some (.cells (tabV m vs) 22 (0, 0))
  r2 : Kd.R (Kd.int .i64) 3 W w.heap.size (fun k => own k = 0) v2 SY
  r3 : Kd.R (Kd.int .i64) 3 W w.heap.size (fun k => own k = 1) v3 RK
  rs : ∀ s, s < m → Kd.R (Kd.int .i64) 3 W w.heap.size (fun k => own k = s + 2) (vs s) (ST s)
  bl : Below w.heap.size w W
  lx : w.heap.size ≤ gx
  ls : w.heap.size ≤ gs
theorem FrS.appR (h : FrS w gx gs m n A0 c0 l0 own v2 v3 vs SY RK ST W) (hR : Kd.R (Kd.int .i64) 3 W1 w.heap.size (fun k => own k = 1) v l) (g : W.grownBy W1 v3.ownBlock) : FrA w gx gs m n A0 c0 l0 own v2 v3 v vs SY l ST W1 :=
  ⟨blk_grown h.hx g (Kd.R_ne h.r3 h.hx (by decide)), blk_grown h.hs g (Kd.R_ne h.r3 h.hs (by decide)), own_grown (by decide) h.r2 h.r3 g, hR, fun s hs => own_grown (by omega) (h.rs s hs) h.r3 g, h.bl.grown g h.bl.size (fun k e => Kd.R_base h.r3 k e), h.lx, h.ls⟩
theorem FrA.set (h : FrA w gx gs m n A0 c0 l0 own v2 v v3 vs SY RK ST W) : FrS w gx gs m n A0 c0 l0 own v2 v3 vs SY RK ST (W.setCell ⟨gx, 3, none⟩ v3) :=
  ⟨blk_put h.hx 3 v3 (by simp), blk_far (p := ⟨gx, 3, none⟩) h.hs (blk_ne h.hs h.hx (by decide)) _, Kd.R_set h.r2 h.hx (by intro q hq; simp [Kd.int, Kd.scalar] at hq; subst hq; decide) 3 _, Kd.R_set h.r3 h.hx (by intro q hq; simp [Kd.int, Kd.scalar] at hq; subst hq; decide) 3 _, fun s hs => Kd.R_set (h.rs s hs) h.hx (by intro q hq; simp [Kd.int, Kd.scalar] at hq; subst hq; decide) 3 _, below_set h.bl h.lx, h.lx, h.ls⟩
/-- A row of states that has grown. -/
structure FrT (w : World) (gx gs m n : Nat) (A0 : Option Addr) (c0 l0 : Nat) (own : Nat → Nat) (v2 v3 : Value) (s : Nat) (v : Value) (vs : Nat → Value) (SY RK l : List Int) (ST : Nat → List Int) (W : World) : Prop where
  hx : W.heap[gx]? = some (.cells #[.int .i64 (n : Int), .slice A0 l0 c0, v2, v3, .slice (some ⟨gs, 0, none⟩) m m] 55 (0, 0))
  hs : W.heap[gs]? = some (.cells (tabV m vs) 22 (0, 0))
  r2 : Kd.R (Kd.int .i64) 3 W w.heap.size (fun k => own k = 0) v2 SY
  r3 : Kd.R (Kd.int .i64) 3 W w.heap.size (fun k => own k = 1) v3 RK
  rt : Kd.R (Kd.int .i64) 3 W w.heap.size (fun k => own k = s + 2) v l
  rs : ∀ t, t < m → t ≠ s → Kd.R (Kd.int .i64) 3 W w.heap.size (fun k => own k = t + 2) (vs t) (ST t)
  bl : Below w.heap.size w W
  lx : w.heap.size ≤ gx
  ls : w.heap.size ≤ gs
theorem FrS.appT (h : FrS w gx gs m n A0 c0 l0 own v2 v3 vs SY RK ST W) {s : Nat} (hs : s < m) (hR : Kd.R (Kd.int .i64) 3 W1 w.heap.size (fun k => own k = s + 2) v l) (g : W.grownBy W1 (vs s).ownBlock) : FrT w gx gs m n A0 c0 l0 own v2 v3 s v vs SY RK l ST W1 :=
  ⟨blk_grown h.hx g (Kd.R_ne (h.rs s hs) h.hx (by decide)), blk_grown h.hs g (Kd.R_ne (h.rs s hs) h.hs (by decide)), own_grown (by omega) h.r2 (h.rs s hs) g, own_grown (by omega) h.r3 (h.rs s hs) g, hR, fun t ht hts => own_grown (by omega) (h.rs t ht) (h.rs s hs) g, h.bl.grown g h.bl.size (fun k e => Kd.R_base (h.rs s hs) k e), h.lx, h.ls⟩
theorem FrT.set {s : Nat} (h : FrT w gx gs m n A0 c0 l0 own v2 v3 s v vs SY RK l ST W) : FrS w gx gs m n A0 c0 l0 own v2 v3 (fun t => if t = s then v else vs t) SY RK (fun t => if t = s then l else ST t) (W.setCell ⟨gs, s, none⟩ v) :=
  ⟨blk_far (p := ⟨gs, s, none⟩) h.hx (blk_ne h.hx h.hs (by decide)) _, blk_put h.hs s v (tabV_set s v), Kd.R_set h.r2 h.hs (by intro q hq; simp [Kd.int, Kd.scalar] at hq; subst hq; decide) s _, Kd.R_set h.r3 h.hs (by intro q hq; simp [Kd.int, Kd.scalar] at hq; subst hq; decide) s _,
    fun t ht => by
      by_cases e : t = s
      · subst e
        rw [if_pos rfl, if_pos rfl]
        exact Kd.R_set h.rt h.hs (by intro q hq; simp [Kd.int, Kd.scalar] at hq; subst hq; decide) _ _
      · rw [if_neg e, if_neg e]
        exact Kd.R_set (h.rs t ht e) h.hs (by intro q hq; simp [Kd.int, Kd.scalar] at hq; subst hq; decide) s _,
    below_set h.bl h.ls, h.lx, h.ls⟩
end
/-- What the table is made of. -/
def Fr1 (w : World) (m gs : Nat) (v2 : Value) (SY : List Int) (W : World) : Prop := Kd.R (Kd.int .i64) 3 W w.heap.size (fun _ => True) v2 SY ∧ W.heap[gs]? = some (.cells (tabV m (fun _ => Value.slice none 0 0)) 22 (0, 0)) ∧ w.heap.size ≤ gs ∧ Below w.heap.size w W
section
variable {w wA wB : World} {m gs : Nat} {v2 : Value} {SY : List Int}
theorem fr1a (hR : Kd.R (Kd.int .i64) 3 wA w.drew.heap.size (fun _ => True) v2 SY) (hA : Below w.drew.heap.size w.drew wA) (hB : wB.heap[gs]? = some (.cells (tabV m (fun _ => Value.slice none 0 0)) 22 (0, 0))) (hb : Below wA.heap.size wA wB) (hg : wA.heap.size = gs) : Fr1 w m gs v2 SY wB :=
  ⟨Kd.R_below hR hb, hB, hg ▸ hA.size, below_step (below_step (below_drew (Below.refl w.heap.size w)) hA) hb⟩
theorem fr1b (hR : Kd.R (Kd.int .i64) 3 wA wB.heap.size (fun _ => True) v2 SY) (hA : Below wB.heap.size wB wA) (hB : wA.heap[gs]? = some (.cells (tabV m (fun _ => Value.slice none 0 0)) 22 (0, 0))) (hb : Below w.drew.heap.size w.drew wB) (hg : w.drew.heap.size = gs) : Fr1 w m gs v2 SY wA :=
  ⟨Kd.R_lower hR hb.size, hB, Nat.le_of_eq hg, below_step (below_step (below_drew (Below.refl w.heap.size w)) hb) hA⟩
theorem fr1_box {W : World} (h : Fr1 w m gs v2 SY W) (o : Obj) : Fr1 w m gs v2 SY (W.alloc o) ∧ (W.alloc o).heap[W.heap.size]? = some o ∧ w.heap.size ≤ W.heap.size := by
  have hb := below_alloc (Below.refl W.heap.size W) o
  exact ⟨⟨Kd.R_below h.1 hb, blk_below h.2.1 hb, h.2.2.1, below_step h.2.2.2 hb⟩, blk_new W _, h.2.2.2.size⟩
end
def zN (T : List Nat) : List Int := T.map (fun x : Nat => (x : Int))
theorem zN_len (T : List Nat) : (zN T).length = T.length := by simp [zN]
/-- The ranks told so far, and the states. -/
def RKi (f : Nat → Nat) (i : Nat) : List Int := tabn i (fun x => (rkF f x : Int))
def STi (f : Nat → Nat) (i s : Nat) : List Int := zN (stF f i s)
theorem RKi_succ (f : Nat → Nat) (i : Nat) : RKi f i ++ [(rkF f i : Int)] = RKi f (i + 1) := by unfold RKi tabn; rw [List.range_succ, List.map_append]; rfl
theorem STi_succ (f : Nat → Nat) (i s : Nat) : (if s = f i then STi f i s ++ [(i : Int)] else STi f i s) = STi f (i + 1) s := by
  unfold STi stF zN
  rw [List.range_succ, List.filter_append, List.map_append]
  by_cases e : s = f i
  · rw [if_pos e, List.filter_cons_of_pos (by simp [e])]; rfl
  · rw [if_neg e, List.filter_cons_of_neg (by simp; exact fun z => e z.symm)]; simp
theorem STi_len (f : Nat → Nat) (i : Nat) : (STi f i (f i)).length = rkF f i := by unfold STi; rw [zN_len, st_len]; rfl
/-- The table. -/
def Tb (W : World) (g n : Nat) (A0 : Option Addr) (c0 : Nat) (norm : List Int) (N : Nat) (f : Nat → Nat) : Prop :=
  ∃ A2 c2 A3 c3 gs vs, W.heap[g]? = some (.cells #[.int .i64 (n : Int), .slice A0 norm.length c0, .slice A2 N c2, .slice A3 N c3, .slice (some ⟨gs, 0, none⟩) norm.length norm.length] 55 (0, 0)) ∧
    Kd.C (Kd.int .i64) W A0 norm.length norm ∧ Kd.C (Kd.int .i64) W A2 N (tabn N (fun x => (f x : Int))) ∧ Kd.C (Kd.int .i64) W A3 N (RKi f N) ∧
    W.heap[gs]? = some (.cells (tabV norm.length vs) 22 (0, 0)) ∧ ∀ s, s < norm.length → ∃ A c, vs s = .slice A (stF f N s).length c ∧ Kd.C (Kd.int .i64) W A (stF f N s).length (STi f N s)
theorem Tb.below {W W1 : World} {g n : Nat} {A0 : Option Addr} {c0 : Nat} {norm : List Int} {N : Nat} {f : Nat → Nat} (h : Tb W g n A0 c0 norm N f) (b : Below W.heap.size W W1) : Tb W1 g n A0 c0 norm N f := by
  obtain ⟨A2, c2, A3, c3, gs, vs, h1, h2, h3, h4, h5, h6⟩ := h
  exact ⟨A2, c2, A3, c3, gs, vs, blk_below h1 b, Kd.C_below h2 b, Kd.C_below h3 b, Kd.C_below h4 b, blk_below h5 b, fun s hs => by
    obtain ⟨A, c, e, hc⟩ := h6 s hs
    exact ⟨A, c, e, Kd.C_below hc b⟩⟩
set_option maxHeartbeats 8000000 in
set_option maxRecDepth 100000 in
theorem fresh_ok (A0 : Option Addr) (c0 : Nat) (norm : List Int) (n N : Nat) (f : Nat → Nat) (kk : Nat) (w : World) (hC : Kd.C (Kd.int .i64) w A0 norm.length norm) (hc0 : norm.length ≤ c0) (hk : tans_spread.f kk norm (n : Int) = some (tabn N (fun x => (f x : Int)))) (hf : ∀ x, x < N → f x < norm.length) (hN : N ≤ 4096) (hm : norm.length ≤ 256) :
    Calls Try.prog 23 #[.slice A0 norm.length c0, .int .i64 (n : Int)] w fun e w' => ∃ g : Nat, e = .returned (.pointer (some ⟨g, 0, none⟩)) ∧ Tb w' g n A0 c0 norm N f ∧ w.heap.size ≤ g ∧ Below w.heap.size w w' := by
  obtain ⟨SY, hSY⟩ : ∃ SY, tabn N (fun x => (f x : Int)) = SY := ⟨_, rfl⟩
  rw [hSY] at hk
  have HK := Aside0.mk hk
  have HSY := Aside0.mk hSY
  have HC := Aside0.mk hC
  have HCC := Aside0.mk hc0
  have HF := Aside0.mk hf
  have HN := Aside0.mk (And.intro hN hm)
  clear hC hc0 hk hf hN hm hSY
  go_enter Try.func23, Try.ntmps23
  go_wp2
  refine start_ (n := 11) (S := fun w' => True) (ds := []) #[false, false, false, false, false, false, false, false, false, false, false] (by kernel_rfl) rfl rfl trivial (fun hHeld => ?_)
  refine pure_ (i := 0) (N := some 8) (v := ?_) (a' := ?_) #[true, false, false, false, false, false, false, false, false, false, false] rfl rfl (by kernel_rfl) (fun _ _ _ h => h) (Or.inl ⟨by rfl, ?_⟩) ?_ ?_
  rotate_left
  · intro w'
    go_simp
    with_reducible rfl
  rotate_left
  · simp only [Act.put, List.setIfInBounds_toArray, List.set_cons_zero, List.set_cons_succ, i64_w, i32_w]
    rfl
  refine pure_ (i := 1) (N := some 9) (v := ?_) (a' := ?_) #[true, true, false, false, false, false, false, false, false, false, false] rfl rfl (by kernel_rfl) (fun _ _ _ h => h) (Or.inl ⟨by rfl, ?_⟩) ?_ ?_
  rotate_left
  · intro w'
    go_simp
    with_reducible rfl
  rotate_left
  · simp only [Act.put, List.setIfInBounds_toArray, List.set_cons_zero, List.set_cons_succ, i64_w, i32_w]
    rfl
  refine pure_ (i := 2) (N := some 10) (v := ?_) (a' := ?_) #[true, true, true, false, false, false, false, false, false, false, false] rfl rfl (by kernel_rfl) (fun _ _ _ h => h) (Or.inl ⟨by rfl, ?_⟩) ?_ ?_
  rotate_left
  · intro w'
    go_simp
    with_reducible rfl
  rotate_left
  · simp only [Act.put, List.setIfInBounds_toArray, List.set_cons_zero, List.set_cons_succ, i64_w, i32_w]
    rfl
  refine pure_ (i := 3) (N := some 11) (v := ?_) (a' := ?_) #[true, true, true, true, false, false, false, false, false, false, false] rfl rfl (by kernel_rfl) (fun _ _ _ h => h) (Or.inl ⟨by rfl, ?_⟩) ?_ ?_
  rotate_left
  · intro w'
    go_simp
    with_reducible rfl
  rotate_left
  · simp only [Act.put, List.setIfInBounds_toArray, List.set_cons_zero, List.set_cons_succ, i64_w, i32_w]
    rfl
  refine pure_ (i := 5) (N := some 13) (v := ?_) (a' := ?_) #[true, true, true, true, false, true, false, false, false, false, false] rfl rfl (by kernel_rfl) (fun _ _ _ h => h) (Or.inl ⟨by rfl, ?_⟩) ?_ ?_
  rotate_left
  · intro w'
    go_simp
    with_reducible rfl
  rotate_left
  · simp only [Act.put, List.setIfInBounds_toArray, List.set_cons_zero, List.set_cons_succ, i64_w, i32_w]
    rfl
  refine pure_ (i := 6) (N := some 14) (v := ?_) (a' := ?_) #[true, true, true, true, false, true, true, false, false, false, false] rfl rfl (by kernel_rfl) (fun _ _ _ h => h) (Or.inl ⟨by rfl, ?_⟩) ?_ ?_
  rotate_left
  · intro w'
    go_simp
    with_reducible rfl
  rotate_left
  · simp only [Act.put, List.setIfInBounds_toArray, List.set_cons_zero, List.set_cons_succ, i64_w, i32_w]
    rfl
  refine join_ (σ := (Option Addr × Nat × Nat)) 3 #[true, true, true, true, true, true, true, true, false, false, false] (fun s => [(12, .slice s.1 SY.length s.2.1), (15, .slice (some ⟨s.2.2, 0, none⟩) norm.length norm.length)]) (fun s w' => Fr1 w norm.length s.2.2 (.slice s.1 SY.length s.2.1) SY w') ?_ ?_
  rotate_left
  · intro hCont
    refine two_ (i := 4) (j := 7) (Ni := some 12) (Nj := some 15) #[true, true, true, true, true, true, true, false, false, false, false] #[true, true, true, true, false, true, true, true, false, false, false] rfl rfl rfl rfl (by kernel_rfl) (by decide) (by decide) (fun K hK => ?_) (fun K hK => ?_)
    · skip
      refine goes_ Try.func22 (by kernel_rfl) rfl #[.slice A0 norm.length c0, .int .i64 (n : Int)] (by rfl) rfl rfl (by simp only [List.map_toArray, List.map_cons, List.map_nil]; rfl) ?_
      with_reducible refine (tans_spread.calls kk A0 c0 norm (n : Int) _ w.drew (Kd.C_below HC.out (below_drew (Below.refl w.heap.size w))) HCC.out HK.out).mono ?_
      rintro e wA ⟨v2, rfl, hRA, hbA⟩
      refine ⟨_, rfl, ?_⟩
      obtain ⟨A2, c2, rfl⟩ := Kd.R_slice hRA
      refine hK.out _ _ trivial (fun hHeld => ?_)
      clear hK K
      refine norm_ (a' := ?_) ?_ ?_
      rotate_left
      · show Act.put _ (some 12) _ = _
        simp only [Act.put, List.setIfInBounds_toArray, List.set_cons_zero, List.set_cons_succ, i64_w, i32_w]
        rfl
      refine one_ (i := 7) (N := some 15) #[true, true, true, true, true, true, true, true, false, false, false] rfl rfl (by kernel_rfl) (by decide) (fun K hK => ?_)
      refine value_ (w1 := wA.alloc (.cells (tabV norm.length (fun _ => Value.slice none 0 0)) 22)) (v := .slice (some ⟨wA.heap.size, 0, none⟩) norm.length norm.length) (by rfl) rfl (make_run rfl norm.length rfl rfl Try.underlying53 info22 rfl (by decide) (by have := HN.out; omega)) ?_
      obtain ⟨gs, hgs⟩ : ∃ g, wA.heap.size = g := ⟨_, rfl⟩
      have hB : (wA.alloc (.cells (tabV norm.length (fun _ => Value.slice none 0 0)) 22)).heap[gs]? = some (.cells (tabV norm.length (fun _ => Value.slice none 0 0)) 22 (0, 0)) := by rw [← hgs]; exact blk_new wA _
      have hbB := below_alloc (Below.refl wA.heap.size wA) (.cells (tabV norm.length (fun _ => Value.slice none 0 0)) 22)
      obtain ⟨wB, hwB⟩ : ∃ w2, wA.alloc (.cells (tabV norm.length (fun _ => Value.slice none 0 0)) 22) = w2 := ⟨_, rfl⟩
      rw [hwB] at hB hbB
      rw [hwB, hgs]
      refine hK.out _ _ trivial (fun hHeld => ?_)
      clear hK K
      refine norm_ (a' := ?_) ?_ ?_
      rotate_left
      · show Act.put _ (some 15) _ = _
        simp only [Act.put, List.setIfInBounds_toArray, List.set_cons_zero, List.set_cons_succ, i64_w, i32_w]
        rfl
      exact norm_ (by simp only [putAll, Act.put, List.setIfInBounds_toArray, List.set_cons_zero, List.set_cons_succ]) (hCont (A2, c2, gs) _ (fr1a hRA hbA hB hbB hgs))
    · skip
      refine value_ (w1 := w.drew.alloc (.cells (tabV norm.length (fun _ => Value.slice none 0 0)) 22)) (v := .slice (some ⟨w.drew.heap.size, 0, none⟩) norm.length norm.length) (by rfl) rfl (make_run rfl norm.length rfl rfl Try.underlying53 info22 rfl (by decide) (by have := HN.out; omega)) ?_
      obtain ⟨gs, hgs⟩ : ∃ g, w.drew.heap.size = g := ⟨_, rfl⟩
      have hB : (w.drew.alloc (.cells (tabV norm.length (fun _ => Value.slice none 0 0)) 22)).heap[gs]? = some (.cells (tabV norm.length (fun _ => Value.slice none 0 0)) 22 (0, 0)) := by rw [← hgs]; exact blk_new w.drew _
      have hbB := below_alloc (Below.refl w.drew.heap.size w.drew) (.cells (tabV norm.length (fun _ => Value.slice none 0 0)) 22)
      obtain ⟨wB, hwB⟩ : ∃ w2, w.drew.alloc (.cells (tabV norm.length (fun _ => Value.slice none 0 0)) 22) = w2 := ⟨_, rfl⟩
      rw [hwB] at hB hbB
      rw [hwB, hgs]
      refine hK.out _ _ trivial (fun hHeld => ?_)
      clear hK K
      refine norm_ (a' := ?_) ?_ ?_
      rotate_left
      · show Act.put _ (some 15) _ = _
        simp only [Act.put, List.setIfInBounds_toArray, List.set_cons_zero, List.set_cons_succ, i64_w, i32_w]
        rfl
      refine one_ (i := 4) (N := some 12) #[true, true, true, true, true, true, true, true, false, false, false] rfl rfl (by kernel_rfl) (by decide) (fun K hK => ?_)
      refine goes_ Try.func22 (by kernel_rfl) rfl #[.slice A0 norm.length c0, .int .i64 (n : Int)] (by rfl) rfl rfl (by simp only [List.map_toArray, List.map_cons, List.map_nil]; rfl) ?_
      with_reducible refine (tans_spread.calls kk A0 c0 norm (n : Int) _ wB (Kd.C_below (Kd.C_below HC.out (below_drew (Below.refl w.heap.size w))) hbB) HCC.out HK.out).mono ?_
      rintro e wA ⟨v2, rfl, hRA, hbA⟩
      refine ⟨_, rfl, ?_⟩
      obtain ⟨A2, c2, rfl⟩ := Kd.R_slice hRA
      have hB := blk_below hB hbA
      refine hK.out _ _ trivial (fun hHeld => ?_)
      clear hK K
      refine norm_ (a' := ?_) ?_ ?_
      rotate_left
      · show Act.put _ (some 12) _ = _
        simp only [Act.put, List.setIfInBounds_toArray, List.set_cons_zero, List.set_cons_succ, i64_w, i32_w]
        rfl
      exact norm_ (by simp only [putAll, Act.put, List.setIfInBounds_toArray, List.set_cons_zero, List.set_cons_succ]) (hCont (A2, c2, gs) _ (fr1b hRA hbA hB hbB hgs))
  rintro ⟨A2, c2, gs⟩ w4 h4
  have E4 := Aside0.mk h4
  clear h4
  have hHeld : True := trivial
  refine norm_ (a' := ?_) ?_ ?_
  rotate_left
  · simp only [putAll, Act.put, List.setIfInBounds_toArray, List.set_cons_zero, List.set_cons_succ]
    rfl
  refine pure_ (i := 8) (N := some 16) (v := ?_) (a' := ?_) #[true, true, true, true, true, true, true, true, true, false, false] rfl rfl (by kernel_rfl) (fun _ _ _ h => h) (Or.inl ⟨by rfl, ?_⟩) ?_ ?_
  rotate_left
  · intro w'
    go_simp
    with_reducible rfl
  rotate_left
  · simp only [Act.put, List.setIfInBounds_toArray, List.set_cons_zero, List.set_cons_succ, i64_w, i32_w]
    rfl
  refine one_ (i := 9) (N := some 17) #[true, true, true, true, true, true, true, true, true, true, false] rfl rfl (by kernel_rfl) (by decide) (fun K hK => ?_)
  refine value_ (w1 := ?_) (v := ?_) (by rfl) rfl ?_ ?_
  rotate_left 2
  · go_simp
    constructor
    · rfl
    · rfl
  have E5 := Aside0.mk (fr1_box E4.out (.cells #[.int .i64 (n : Int), .slice A0 norm.length c0, .slice A2 SY.length c2, .slice none 0 0, .slice (some ⟨gs, 0, none⟩) norm.length norm.length] 55 (0, 0)))
  refine hK.out _ _ trivial (fun hHeld => ?_)
  clear hK K
  refine norm_ (a' := ?_) ?_ ?_
  rotate_left
  · show Act.put _ (some 17) _ = _
    simp only [Act.put, List.setIfInBounds_toArray, List.set_cons_zero, List.set_cons_succ, i64_w, i32_w]
    rfl
  refine pure_ (i := 10) (N := some 5) (v := ?_) (a' := ?_) #[true, true, true, true, true, true, true, true, true, true, true] rfl rfl (by kernel_rfl) (fun _ _ _ h => h) (Or.inl ⟨by rfl, ?_⟩) ?_ ?_
  rotate_left
  · intro w'
    go_simp
    with_reducible rfl
  rotate_left
  · simp only [Act.put, List.setIfInBounds_toArray, List.set_cons_zero, List.set_cons_succ, i64_w, i32_w]
    rfl
  refine done_ (by kernel_rfl) ?_
  obtain ⟨m, hm⟩ : ∃ m, norm.length = m := ⟨_, rfl⟩
  obtain ⟨l0, hl0⟩ : ∃ l0, norm.length = l0 := ⟨_, rfl⟩
  obtain ⟨gx, hgx⟩ : ∃ g, w4.heap.size = g := ⟨_, rfl⟩
  have HM := Aside0.mk hm
  obtain ⟨w5, hw5⟩ : ∃ w5, w4.alloc (.cells #[.int .i64 (n : Int), .slice A0 norm.length c0, .slice A2 SY.length c2, .slice none 0 0, .slice (some ⟨gs, 0, none⟩) norm.length norm.length] 55 (0, 0)) = w5 := ⟨_, rfl⟩
  have F0 := Aside0.mk (show FrS w gx gs m n A0 c0 m (fun _ => 0) (.slice A2 SY.length c2) (.slice none 0 0) (fun _ => .slice none 0 0) SY (RKi f 0) (STi f 0) w5 from by
    have h := E5.out
    rw [hw5, hgx, hm] at h
    obtain ⟨⟨h1, h2, h3, h4⟩, h5, h6⟩ := h
    exact ⟨h5, h2, Kd.R_mono h1 (fun _ _ => rfl), Kd.R_nil _ _ _ _ _, fun s _ => Kd.R_nil _ _ _ _ _, h4, h6, h3⟩)
  have HLS := Aside0.mk (show SY.length = N by rw [← HSY.out, tabn_length])
  rw [hw5, hgx, hm]
  clear hw5 hgx E4 E5 hm hl0
  rw [HLS.out] at F0 ⊢
  have k2 := (blk_cell F0.out.hx 2).trans (rfl : _ = some (Value.slice A2 N c2))
  go_wp2
  go_loopg [23] N (fun q v23 w' => ∃ (L : Int) (i : Nat) (own : Nat → Nat) (v3 : Value) (vs : Nat → Value), v23 = .int .i64 L ∧ Aside0 (L = (i : Int) ∧ i + q = N) ∧ Aside0 (FrS w gx gs m n A0 c0 m own (.slice A2 N c2) v3 vs SY (RKi f i) (STi f i) w'))
  case atStart => exact ⟨0, 0, _, _, _, rfl, ⟨rfl, by omega⟩, F0⟩
  case round =>
    clear F0 k2
    obtain ⟨L, i, own, v3, vs, rfl, HI, F⟩ := hrel
    cases gk with
    | zero =>
      have t1 : decide (L < (N : Int)) = false := decide_eq_false (by have := HI.out; omega)
      go_wp2
      go_ret
      have hF := F.out
      have hi : i = N := by have := HI.out; omega
      rw [hi] at hF
      refine ⟨gx, rfl, ?_, hF.lx, hF.bl⟩
      obtain ⟨A3, c3, e3⟩ := Kd.R_slice hF.r3
      rw [show (RKi f N).length = N from tabn_length _ _] at e3
      have hm := HM.out
      refine ⟨A2, c2, A3, c3, gs, vs, by rw [hm, ← e3]; exact hF.hx, Kd.C_below HC.out hF.bl, ?_, ?_, by rw [hm]; exact hF.hs, fun s hs => ?_⟩
      · have h := (Kd.R_reads' hF.r2).2.2
        rw [HLS.out, ← HSY.out] at h
        exact h
      · have h3 := hF.r3
        rw [e3] at h3
        have h := (Kd.R_reads' h3).2.2
        rw [show (RKi f N).length = N from tabn_length _ _] at h
        exact h
      · have h3 := hF.rs s (by omega)
        obtain ⟨A, c, e⟩ := Kd.R_slice h3
        rw [e] at h3
        have h := (Kd.R_reads' h3).2.2
        rw [show (STi f N s).length = (stF f N s).length from zN_len _] at h e
        exact ⟨A, c, e, h⟩
    | succ q =>
      have t1 : decide (L < (N : Int)) = true := decide_eq_true (by have := HI.out; omega)
      have p1 : (0 ≤ L) = True := eq_true (by have := HI.out; omega)
      have q1 : (L < (N : Int)) = True := eq_true (by have := HI.out; omega)
      obtain ⟨s, hs⟩ : ∃ s, f i = s := ⟨_, rfl⟩
      have hsm : s < m := by rw [← hs, ← HM.out]; exact HF.out i (by have := HI.out; omega)
      have hC2 := (Kd.R_reads' F.out.r2).2.2
      rw [HLS.out] at hC2
      obtain ⟨ad, e_, hcx⟩ := Kd.at_int (by rw [← HLS.out] at hC2; exact hC2) L (by have := HI.out; omega) (by have := HI.out; rw [HLS.out]; omega)
      have hrd : rd SY L = (s : Int) := by rw [← HSY.out, HI.out.1, rd_nat, tabn_getD (by have := HI.out; omega), hs]
      rw [hrd] at hcx
      subst e_
      obtain ⟨A3, c3, e3⟩ := Kd.R_slice F.out.r3
      rw [show (RKi f i).length = i from tabn_length _ _] at e3
      subst e3
      obtain ⟨At, ct, et⟩ := Kd.R_slice (F.out.rs s hsm)
      obtain ⟨lt, hlt⟩ : ∃ lt, (STi f i s).length = lt := ⟨_, rfl⟩
      rw [hlt] at et
      have HLT := Aside0.mk (show (STi f i s).length = lt ∧ lt ≤ 4096 from ⟨hlt, by
        rw [← hlt, ← hs, STi_len]
        have := List.countP_le_length (p := fun z => decide (f z = f i)) (l := List.range i)
        rw [List.length_range] at this
        have h2 := HI.out
        have h3 := HN.out
        unfold rkF
        omega⟩)
      have HVS := Aside0.mk et
      have HVC := Aside0.mk (show (tabV m vs)[s]? = some (.slice At lt ct) by rw [tabV_get hsm, et])
      have HS := Aside0.mk hsm
      have HSI := Aside0.mk hs
      have p2 : ((s : Int) < (m : Int)) = True := eq_true (by omega)
      have q2 : (s < m) = True := eq_true hsm
      clear hs hsm hC2 hrd et hlt
      go_wp2
      have J0 := Aside0.mk (F.out.below (below_drew (Below.refl wr.heap.size wr)))
      refine start_ (n := 18) (S := fun w' => w'.cell? ⟨gx, 3, none⟩ = some (.slice A3 i c3) ∧ w'.cell? ⟨gx, 4, none⟩ = some (.slice (some ⟨gs, 0, none⟩) m m) ∧ w'.cell? ⟨gs, s, none⟩ = some (.slice At lt ct)) (ds := [17]) #[false, false, false, false, false, false, false, false, false, false, false, false, false, false, false, false, false, false] (by kernel_rfl) rfl rfl ⟨((blk_cell J0.out.hx 3).trans rfl), ((blk_cell J0.out.hx 4).trans rfl), ((blk_cell J0.out.hs s).trans HVC.out)⟩ (fun hHeld => ?_)
      refine pure_ (i := 0) (N := some 28) (v := ?_) (a' := ?_) #[true, false, false, false, false, false, false, false, false, false, false, false, false, false, false, false, false, false] rfl rfl (by kernel_rfl) (fun _ _ _ h => h) (Or.inl ⟨by rfl, ?_⟩) ?_ ?_
      rotate_left
      · intro w'
        go_simp
        with_reducible rfl
      rotate_left
      · simp only [Act.put, List.setIfInBounds_toArray, List.set_cons_zero, List.set_cons_succ, i64_w, i32_w]
        rfl
      refine pure_ (i := 1) (N := some 29) (v := ?_) (a' := ?_) #[true, true, false, false, false, false, false, false, false, false, false, false, false, false, false, false, false, false] rfl rfl (by kernel_rfl) (fun _ _ _ h => h) (Or.inl ⟨by rfl, ?_⟩) ?_ ?_
      rotate_left
      · intro w'
        go_simp
        with_reducible rfl
      rotate_left
      · simp only [Act.put, List.setIfInBounds_toArray, List.set_cons_zero, List.set_cons_succ, i64_w, i32_w]
        rfl
      refine pure_ (i := 2) (N := some 30) (v := ?_) (a' := ?_) #[true, true, true, false, false, false, false, false, false, false, false, false, false, false, false, false, false, false] rfl rfl (by kernel_rfl) (fun _ _ _ h => h) (Or.inl ⟨by rfl, ?_⟩) ?_ ?_
      rotate_left
      · intro w'
        go_simp
        with_reducible rfl
      rotate_left
      · simp only [Act.put, List.setIfInBounds_toArray, List.set_cons_zero, List.set_cons_succ, i64_w, i32_w]
        rfl
      refine pure_ (i := 3) (N := some 31) (v := ?_) (a' := ?_) #[true, true, true, true, false, false, false, false, false, false, false, false, false, false, false, false, false, false] rfl rfl (by kernel_rfl) (fun _ _ _ h => h) (Or.inl ⟨by rfl, ?_⟩) ?_ ?_
      rotate_left
      · intro w'
        go_simp
        with_reducible rfl
      rotate_left
      · simp only [Act.put, List.setIfInBounds_toArray, List.set_cons_zero, List.set_cons_succ, i64_w, i32_w]
        rfl
      refine pure_ (i := 5) (N := some 33) (v := ?_) (a' := ?_) #[true, true, true, true, false, true, false, false, false, false, false, false, false, false, false, false, false, false] rfl rfl (by kernel_rfl) (fun _ _ _ h => h) (Or.inl ⟨by rfl, ?_⟩) ?_ ?_
      rotate_left
      · intro w'
        go_simp
        with_reducible rfl
      rotate_left
      · simp only [Act.put, List.setIfInBounds_toArray, List.set_cons_zero, List.set_cons_succ, i64_w, i32_w]
        rfl
      refine pure_ (i := 6) (N := some 34) (v := ?_) (a' := ?_) #[true, true, true, true, false, true, true, false, false, false, false, false, false, false, false, false, false, false] rfl rfl (by kernel_rfl) (fun _ _ _ h => h) (Or.inl ⟨by rfl, ?_⟩) ?_ ?_
      rotate_left
      · intro w'
        go_simp
        with_reducible rfl
      rotate_left
      · simp only [Act.put, List.setIfInBounds_toArray, List.set_cons_zero, List.set_cons_succ, i64_w, i32_w]
        rfl
      refine pure_ (i := 7) (N := some 35) (v := ?_) (a' := ?_) #[true, true, true, true, false, true, true, true, false, false, false, false, false, false, false, false, false, false] rfl rfl (by kernel_rfl) (fun _ _ _ h => h) (Or.inl ⟨by rfl, ?_⟩) ?_ ?_
      rotate_left
      · intro w'
        go_simp
        with_reducible rfl
      rotate_left
      · simp only [Act.put, List.setIfInBounds_toArray, List.set_cons_zero, List.set_cons_succ, i64_w, i32_w]
        rfl
      refine pure_ (i := 9) (N := some 37) (v := ?_) (a' := ?_) #[true, true, true, true, false, true, true, true, false, true, false, false, false, false, false, false, false, false] rfl rfl (by kernel_rfl) (fun _ _ _ h => h) (Or.inl ⟨by rfl, ?_⟩) ?_ ?_
      rotate_left
      · intro w'
        go_simp
        with_reducible rfl
      rotate_left
      · simp only [Act.put, List.setIfInBounds_toArray, List.set_cons_zero, List.set_cons_succ, i64_w, i32_w]
        rfl
      refine take_ (i := 4) (N := some 32) (v := ?_) (a' := ?_) #[true, true, true, true, true, true, true, true, false, true, false, false, false, false, false, false, false, false] rfl rfl (by kernel_rfl) (fun _ _ _ h => h) (Or.inl ⟨by rfl, ?_⟩) hHeld ?_ ?_
      rotate_left
      · rintro w' ⟨s0, s1, s2⟩
        go_simp
        with_reducible rfl
      rotate_left
      · simp only [Act.put, List.setIfInBounds_toArray, List.set_cons_zero, List.set_cons_succ, i64_w, i32_w]
        rfl
      refine take_ (i := 8) (N := some 36) (v := ?_) (a' := ?_) #[true, true, true, true, true, true, true, true, true, true, false, false, false, false, false, false, false, false] rfl rfl (by kernel_rfl) (fun _ _ _ h => h) (Or.inl ⟨by rfl, ?_⟩) hHeld ?_ ?_
      rotate_left
      · rintro w' ⟨s0, s1, s2⟩
        go_simp
        with_reducible rfl
      rotate_left
      · simp only [Act.put, List.setIfInBounds_toArray, List.set_cons_zero, List.set_cons_succ, i64_w, i32_w]
        rfl
      refine pure_ (i := 10) (N := some 38) (v := ?_) (a' := ?_) #[true, true, true, true, true, true, true, true, true, true, true, false, false, false, false, false, false, false] rfl rfl (by kernel_rfl) (fun _ _ _ h => h) (Or.inl ⟨by rfl, ?_⟩) ?_ ?_
      rotate_left
      · intro w'
        go_simp
        with_reducible rfl
      rotate_left
      · simp only [Act.put, List.setIfInBounds_toArray, List.set_cons_zero, List.set_cons_succ, i64_w, i32_w]
        rfl
      refine take_ (i := 11) (N := some 39) (v := ?_) (a' := ?_) #[true, true, true, true, true, true, true, true, true, true, true, true, false, false, false, false, false, false] rfl rfl (by kernel_rfl) (fun _ _ _ h => h) (Or.inl ⟨by rfl, ?_⟩) hHeld ?_ ?_
      rotate_left
      · rintro w' ⟨s0, s1, s2⟩
        go_simp
        with_reducible rfl
      rotate_left
      · simp only [Act.put, List.setIfInBounds_toArray, List.set_cons_zero, List.set_cons_succ, i64_w, i32_w]
        rfl
      refine pure_ (i := 12) (N := some 40) (v := ?_) (a' := ?_) #[true, true, true, true, true, true, true, true, true, true, true, true, true, false, false, false, false, false] rfl rfl (by kernel_rfl) (fun _ _ _ h => h) (Or.inl ⟨by rfl, ?_⟩) ?_ ?_
      rotate_left
      · intro w'
        go_simp
        with_reducible rfl
      rotate_left
      · simp only [Act.put, List.setIfInBounds_toArray, List.set_cons_zero, List.set_cons_succ, i64_w, i32_w]
        rfl
      refine one_ (i := 13) (N := some 41) #[true, true, true, true, true, true, true, true, true, true, true, true, true, true, false, false, false, false] rfl rfl (by kernel_rfl) (by decide) (fun K hK => ?_)
      refine lit_step (cs := #[.int .i64 (lt : Int)]) (e := 3) (n := 1) (by rfl) rfl ?_ ?_
      · first | (go_simp; done) | (go_simp; rfl)
      intro kA wA ekA hA hbA
      have JA := J0.out.below hbA
      refine hK.out _ _ ⟨((blk_cell JA.hx 3).trans rfl), ((blk_cell JA.hx 4).trans rfl), ((blk_cell JA.hs s).trans HVC.out)⟩ (fun hHeld => ?_)
      clear hK K
      refine norm_ (a' := ?_) ?_ ?_
      rotate_left
      · show Act.put _ (some 41) _ = _
        simp only [Act.put, List.setIfInBounds_toArray, List.set_cons_zero, List.set_cons_succ, i64_w, i32_w]
        rfl
      refine one_ (i := 14) (N := some 42) #[true, true, true, true, true, true, true, true, true, true, true, true, true, true, true, false, false, false] rfl rfl (by kernel_rfl) (by decide) (fun K hK => ?_)
      refine Kd.R_append_rows_step (Kd.int .i64) (w0 := wA) (W := wA) w.heap.size (by rfl) (.tmp 32) (.tmp 41) 22 3 (.int .i64 0) 8 rfl Try.underlying22 info3 rfl (by decide) (by decide) (.slice A3 i c3) (RKi f i) [(lt : Int)] (some ⟨kA, 0, none⟩) 1 1 (fun k => ownN own wA.heap.size 1 k = 1) (fun _ => False) rfl rfl (JA.give 1).r3 (one_at hA) (fun _ _ h => h) (fun _ h => h.elim) (own_fresh own wA.heap.size 1) (Below.refl _ _) JA.bs (by unfold RKi; rw [tabn_length]; have := HI.out; have := HN.out; omega) ?_
      intro v5 w5 ho5 hb5 hg5 ha5
      obtain ⟨A5, c5, e5⟩ := Kd.R_slice ho5
      rw [show (RKi f i ++ [(lt : Int)]).length = i + 1 from by rw [List.length_append]; unfold RKi; rw [tabn_length]; rfl] at e5
      subst e5
      have J5 := (JA.give 1).appR ho5 hg5
      refine hK.out _ _ ⟨((blk_cell J5.hx 3).trans rfl), ((blk_cell J5.hx 4).trans rfl), ((blk_cell J5.hs s).trans HVC.out)⟩ (fun hHeld => ?_)
      clear hK K
      refine norm_ (a' := ?_) ?_ ?_
      rotate_left
      · show Act.put _ (some 42) _ = _
        simp only [Act.put, List.setIfInBounds_toArray, List.set_cons_zero, List.set_cons_succ, i64_w, i32_w]
        rfl
      refine pure_ (i := 15) (N := some 43) (v := ?_) (a' := ?_) #[true, true, true, true, true, true, true, true, true, true, true, true, true, true, true, true, false, false] rfl rfl (by kernel_rfl) (fun _ _ _ h => h) (Or.inl ⟨by rfl, ?_⟩) ?_ ?_
      rotate_left
      · intro w'
        go_simp
        with_reducible rfl
      rotate_left
      · simp only [Act.put, List.setIfInBounds_toArray, List.set_cons_zero, List.set_cons_succ, i64_w, i32_w]
        rfl
      refine pure_ (i := 16) (N := some 44) (v := ?_) (a' := ?_) #[true, true, true, true, true, true, true, true, true, true, true, true, true, true, true, true, true, false] rfl rfl (by kernel_rfl) (fun _ _ _ h => h) (Or.inl ⟨by rfl, ?_⟩) ?_ ?_
      rotate_left
      · intro w'
        go_simp
        with_reducible rfl
      rotate_left
      · simp only [Act.put, List.setIfInBounds_toArray, List.set_cons_zero, List.set_cons_succ, i64_w, i32_w]
        rfl
      refine last_ (i := 17) (N := none) #[true, true, true, true, true, true, true, true, true, true, true, true, true, true, true, true, true, true] rfl rfl (by kernel_rfl) (by decide) (fun K hK => ?_)
      have hc17 := (blk_cell J5.hx 3).trans (rfl : _ = some (Value.slice A3 i c3))
      have hf17 := blk_frozen J5.hx 3
      refine skip_ (w1 := ?_) (by rfl) rfl ?_ ?_
      rotate_left
      · go_simp
        rfl
      refine hK.out _ _ ?_
      clear hK K
      refine done_ (by kernel_rfl) ?_
      have ERK : RKi f i ++ [(lt : Int)] = RKi f (i + 1) := by
        rw [← RKi_succ, ← HLT.out.1, ← HSI.out, STi_len]
      have F8 := Aside0.mk (show FrS w gx gs m n A0 c0 m (ownN own wA.heap.size 1) (.slice (some ad) N c2) (.slice A5 (i + 1) c5) vs SY (RKi f (i + 1)) (STi f i) (w5.setCell ⟨gx, 3, none⟩ (.slice A5 (i + 1) c5)) from by rw [← ERK]; exact J5.set)
      clear hHeld hc17 hf17 J5 ho5 hb5 hg5 ha5 JA hbA hA ekA ERK F J0
      obtain ⟨w8, hw8⟩ : ∃ w8, w5.setCell ⟨gx, 3, none⟩ (.slice A5 (i + 1) c5) = w8 := ⟨_, rfl⟩
      rw [hw8] at F8
      rw [hw8]
      clear hw8
      generalize ownN own wA.heap.size 1 = own at F8
      generalize Value.slice A5 (i + 1) c5 = v8 at F8 ⊢
      go_wp2
      have J0 := Aside0.mk (F8.out.below (below_drew (Below.refl w8.heap.size w8)))
      clear hcx
      refine start_ (n := 17) (S := fun w' => w'.cell? ⟨gx, 4, none⟩ = some (.slice (some ⟨gs, 0, none⟩) m m) ∧ w'.cell? ⟨gs, s, none⟩ = some (.slice At lt ct)) (ds := [16]) #[false, false, false, false, false, false, false, false, false, false, false, false, false, false, false, false, false] (by kernel_rfl) rfl rfl ⟨((blk_cell J0.out.hx 4).trans rfl), ((blk_cell J0.out.hs s).trans HVC.out)⟩ (fun hHeld => ?_)
      refine pure_ (i := 0) (N := some 45) (v := ?_) (a' := ?_) #[true, false, false, false, false, false, false, false, false, false, false, false, false, false, false, false, false] rfl rfl (by kernel_rfl) (fun _ _ _ h => h) (Or.inl ⟨by rfl, ?_⟩) ?_ ?_
      rotate_left
      · intro w'
        go_simp
        with_reducible rfl
      rotate_left
      · simp only [Act.put, List.setIfInBounds_toArray, List.set_cons_zero, List.set_cons_succ, i64_w, i32_w]
        rfl
      refine pure_ (i := 1) (N := some 46) (v := ?_) (a' := ?_) #[true, true, false, false, false, false, false, false, false, false, false, false, false, false, false, false, false] rfl rfl (by kernel_rfl) (fun _ _ _ h => h) (Or.inl ⟨by rfl, ?_⟩) ?_ ?_
      rotate_left
      · intro w'
        go_simp
        with_reducible rfl
      rotate_left
      · simp only [Act.put, List.setIfInBounds_toArray, List.set_cons_zero, List.set_cons_succ, i64_w, i32_w]
        rfl
      refine pure_ (i := 2) (N := some 47) (v := ?_) (a' := ?_) #[true, true, true, false, false, false, false, false, false, false, false, false, false, false, false, false, false] rfl rfl (by kernel_rfl) (fun _ _ _ h => h) (Or.inl ⟨by rfl, ?_⟩) ?_ ?_
      rotate_left
      · intro w'
        go_simp
        with_reducible rfl
      rotate_left
      · simp only [Act.put, List.setIfInBounds_toArray, List.set_cons_zero, List.set_cons_succ, i64_w, i32_w]
        rfl
      refine pure_ (i := 4) (N := some 49) (v := ?_) (a' := ?_) #[true, true, true, false, true, false, false, false, false, false, false, false, false, false, false, false, false] rfl rfl (by kernel_rfl) (fun _ _ _ h => h) (Or.inl ⟨by rfl, ?_⟩) ?_ ?_
      rotate_left
      · intro w'
        go_simp
        with_reducible rfl
      rotate_left
      · simp only [Act.put, List.setIfInBounds_toArray, List.set_cons_zero, List.set_cons_succ, i64_w, i32_w]
        rfl
      refine pure_ (i := 5) (N := some 50) (v := ?_) (a' := ?_) #[true, true, true, false, true, true, false, false, false, false, false, false, false, false, false, false, false] rfl rfl (by kernel_rfl) (fun _ _ _ h => h) (Or.inl ⟨by rfl, ?_⟩) ?_ ?_
      rotate_left
      · intro w'
        go_simp
        with_reducible rfl
      rotate_left
      · simp only [Act.put, List.setIfInBounds_toArray, List.set_cons_zero, List.set_cons_succ, i64_w, i32_w]
        rfl
      refine pure_ (i := 6) (N := some 51) (v := ?_) (a' := ?_) #[true, true, true, false, true, true, true, false, false, false, false, false, false, false, false, false, false] rfl rfl (by kernel_rfl) (fun _ _ _ h => h) (Or.inl ⟨by rfl, ?_⟩) ?_ ?_
      rotate_left
      · intro w'
        go_simp
        with_reducible rfl
      rotate_left
      · simp only [Act.put, List.setIfInBounds_toArray, List.set_cons_zero, List.set_cons_succ, i64_w, i32_w]
        rfl
      refine pure_ (i := 7) (N := some 52) (v := ?_) (a' := ?_) #[true, true, true, false, true, true, true, true, false, false, false, false, false, false, false, false, false] rfl rfl (by kernel_rfl) (fun _ _ _ h => h) (Or.inl ⟨by rfl, ?_⟩) ?_ ?_
      rotate_left
      · intro w'
        go_simp
        with_reducible rfl
      rotate_left
      · simp only [Act.put, List.setIfInBounds_toArray, List.set_cons_zero, List.set_cons_succ, i64_w, i32_w]
        rfl
      refine pure_ (i := 9) (N := some 54) (v := ?_) (a' := ?_) #[true, true, true, false, true, true, true, true, false, true, false, false, false, false, false, false, false] rfl rfl (by kernel_rfl) (fun _ _ _ h => h) (Or.inl ⟨by rfl, ?_⟩) ?_ ?_
      rotate_left
      · intro w'
        go_simp
        with_reducible rfl
      rotate_left
      · simp only [Act.put, List.setIfInBounds_toArray, List.set_cons_zero, List.set_cons_succ, i64_w, i32_w]
        rfl
      refine pure_ (i := 12) (N := some 57) (v := ?_) (a' := ?_) #[true, true, true, false, true, true, true, true, false, true, false, false, true, false, false, false, false] rfl rfl (by kernel_rfl) (fun _ _ _ h => h) (Or.inl ⟨by rfl, ?_⟩) ?_ ?_
      rotate_left
      · intro w'
        go_simp
        with_reducible rfl
      rotate_left
      · simp only [Act.put, List.setIfInBounds_toArray, List.set_cons_zero, List.set_cons_succ, i64_w, i32_w]
        rfl
      refine take_ (i := 3) (N := some 48) (v := ?_) (a' := ?_) #[true, true, true, true, true, true, true, true, false, true, false, false, true, false, false, false, false] rfl rfl (by kernel_rfl) (fun _ _ _ h => h) (Or.inl ⟨by rfl, ?_⟩) hHeld ?_ ?_
      rotate_left
      · rintro w' ⟨s0, s1⟩
        go_simp
        with_reducible rfl
      rotate_left
      · simp only [Act.put, List.setIfInBounds_toArray, List.set_cons_zero, List.set_cons_succ, i64_w, i32_w]
        rfl
      refine take_ (i := 8) (N := some 53) (v := ?_) (a' := ?_) #[true, true, true, true, true, true, true, true, true, true, false, false, true, false, false, false, false] rfl rfl (by kernel_rfl) (fun _ _ _ h => h) (Or.inl ⟨by rfl, ?_⟩) hHeld ?_ ?_
      rotate_left
      · rintro w' ⟨s0, s1⟩
        go_simp
        with_reducible rfl
      rotate_left
      · simp only [Act.put, List.setIfInBounds_toArray, List.set_cons_zero, List.set_cons_succ, i64_w, i32_w]
        rfl
      refine pure_ (i := 10) (N := some 55) (v := ?_) (a' := ?_) #[true, true, true, true, true, true, true, true, true, true, true, false, true, false, false, false, false] rfl rfl (by kernel_rfl) (fun _ _ _ h => h) (Or.inl ⟨by rfl, ?_⟩) ?_ ?_
      rotate_left
      · intro w'
        go_simp
        with_reducible rfl
      rotate_left
      · simp only [Act.put, List.setIfInBounds_toArray, List.set_cons_zero, List.set_cons_succ, i64_w, i32_w]
        rfl
      refine take_ (i := 11) (N := some 56) (v := ?_) (a' := ?_) #[true, true, true, true, true, true, true, true, true, true, true, true, true, false, false, false, false] rfl rfl (by kernel_rfl) (fun _ _ _ h => h) (Or.inl ⟨by rfl, ?_⟩) hHeld ?_ ?_
      rotate_left
      · rintro w' ⟨s0, s1⟩
        go_simp
        with_reducible rfl
      rotate_left
      · simp only [Act.put, List.setIfInBounds_toArray, List.set_cons_zero, List.set_cons_succ, i64_w, i32_w]
        rfl
      refine one_ (i := 13) (N := some 58) #[true, true, true, true, true, true, true, true, true, true, true, true, true, true, false, false, false] rfl rfl (by kernel_rfl) (by decide) (fun K hK => ?_)
      refine lit_step (cs := #[.int .i64 L]) (e := 3) (n := 1) (by rfl) rfl ?_ ?_
      · first | (go_simp; done) | (go_simp; rfl)
      intro kA wA ekA hA hbA
      have JA := J0.out.below hbA
      refine hK.out _ _ ⟨((blk_cell JA.hx 4).trans rfl), ((blk_cell JA.hs s).trans HVC.out)⟩ (fun hHeld => ?_)
      clear hK K
      refine norm_ (a' := ?_) ?_ ?_
      rotate_left
      · show Act.put _ (some 58) _ = _
        simp only [Act.put, List.setIfInBounds_toArray, List.set_cons_zero, List.set_cons_succ, i64_w, i32_w]
        rfl
      refine one_ (i := 14) (N := some 59) #[true, true, true, true, true, true, true, true, true, true, true, true, true, true, true, false, false] rfl rfl (by kernel_rfl) (by decide) (fun K hK => ?_)
      refine Kd.R_append_rows_step (Kd.int .i64) (w0 := wA) (W := wA) w.heap.size (by rfl) (.tmp 56) (.tmp 58) 22 3 (.int .i64 0) 8 rfl Try.underlying22 info3 rfl (by decide) (by decide) (.slice At lt ct) (STi f i s) [L] (some ⟨kA, 0, none⟩) 1 1 (fun k => ownN own wA.heap.size (s + 2) k = s + 2) (fun _ => False) rfl rfl (HVS.out ▸ (JA.give (s + 2)).rs s HS.out) (one_at hA) (fun _ _ h => h) (fun _ h => h.elim) (own_fresh own wA.heap.size (s + 2)) (Below.refl _ _) JA.bs (by have := HLT.out; have := HN.out; omega) ?_
      intro v5 w5 ho5 hb5 hg5 ha5
      obtain ⟨A5, c5, e5⟩ := Kd.R_slice ho5
      rw [show (STi f i s ++ [L]).length = lt + 1 from by rw [List.length_append, HLT.out.1]; rfl] at e5
      subst e5
      have J5 := (JA.give (s + 2)).appT HS.out ho5 (by rw [HVS.out]; exact hg5)
      refine hK.out _ _ ⟨((blk_cell J5.hx 4).trans rfl), ((blk_cell J5.hs s).trans HVC.out)⟩ (fun hHeld => ?_)
      clear hK K
      refine norm_ (a' := ?_) ?_ ?_
      rotate_left
      · show Act.put _ (some 59) _ = _
        simp only [Act.put, List.setIfInBounds_toArray, List.set_cons_zero, List.set_cons_succ, i64_w, i32_w]
        rfl
      refine pure_ (i := 15) (N := some 60) (v := ?_) (a' := ?_) #[true, true, true, true, true, true, true, true, true, true, true, true, true, true, true, true, false] rfl rfl (by kernel_rfl) (fun _ _ _ h => h) (Or.inl ⟨by rfl, ?_⟩) ?_ ?_
      rotate_left
      · intro w'
        go_simp
        with_reducible rfl
      rotate_left
      · simp only [Act.put, List.setIfInBounds_toArray, List.set_cons_zero, List.set_cons_succ, i64_w, i32_w]
        rfl
      refine last_ (i := 16) (N := none) #[true, true, true, true, true, true, true, true, true, true, true, true, true, true, true, true, true] rfl rfl (by kernel_rfl) (by decide) (fun K hK => ?_)
      have hc16 := (blk_cell J5.hs s).trans HVC.out
      have hf16 := blk_frozen J5.hs s
      refine skip_ (w1 := ?_) (by rfl) rfl ?_ ?_
      rotate_left
      · go_simp
        rfl
      refine hK.out _ _ ?_
      clear hK K
      refine done_ (by kernel_rfl) ?_
      have F9 := Aside0.mk (show FrS w gx gs m n A0 c0 m (ownN own wA.heap.size (s + 2)) (.slice (some ad) N c2) v8 (fun t => if t = s then .slice A5 (lt + 1) c5 else vs t) SY (RKi f (i + 1)) (STi f (i + 1)) (w5.setCell ⟨gs, s, none⟩ (.slice A5 (lt + 1) c5)) from by
        have h := J5.set
        have e : (fun t => if t = s then STi f i s ++ [L] else STi f i t) = STi f (i + 1) := by
          funext t
          rw [← STi_succ, HSI.out, HI.out.1]
          by_cases e : t = s
          · rw [if_pos e, if_pos e, e]
          · rw [if_neg e, if_neg e]
        rw [e] at h
        exact h)
      clear hHeld hc16 hf16 J5 ho5 hb5 hg5 ha5 JA hbA hA ekA F8 J0
      go_wp2
      go_roundg q
      case measure => omega
      case rel => exact ⟨_, i + 1, _, _, _, rfl, ⟨by have := HI.out; have := HN.out; rw [w64 (by omega) (by omega)]; omega, by have := HI.out; omega⟩, F9⟩
end Go.Proofs.Ytoondlhlcmjniaa.Hd
