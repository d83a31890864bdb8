/- Codes of lengths, along their order; the document's Order. -/
import Derived.Test.YtoikiefegkgedaaKrB
import Derived.Test.YtoikiefegkgedaaPx4
import Derived.Test.YtoikiefegkgedaaHCn
import Derived.BigQuiet
set_option linter.unusedVariables false
set_option linter.unusedSimpArgs false
set_option linter.unusedSectionVars false
namespace Go.Proofs.Ytoikiefegkgedaa.Cn
open Go.RowKit Go.Proofs.YtoikiefegkgedaaW.PrintWords Go.Proofs.YtoikiefegkgedaaW.PrintMore Go.Proofs.Ytoikiefegkgedaa.P Go.Proofs.Ytoikiefegkgedaa.Com Go.Proofs.Ytoikiefegkgedaa.Hd
attribute [local irreducible] ord pos code
theorem S_flat (c : Nat → Nat) {a b : Nat} (h : a ≤ b) (e : S c b = S c a) : F c b = F c a * 2 ^ (b - a) := by
  induction b with
  | zero => rw [show a = 0 by omega]; simp
  | succ b ih =>
    by_cases hb : a = b + 1
    · rw [hb]; simp
    · have h1 := S_mono c (show a ≤ b by omega)
      simp only [S] at e
      have e0 : c b = 0 := by omega
      have h2 := ih (by omega) (by omega)
      have e2 : b + 1 - a = (b - a) + 1 := by omega
      simp only [F]
      rw [e0, Nat.zero_add, h2, e2, Nat.pow_succ, Nat.mul_assoc]
theorem ln_pos {l : List Int} {i : Nat} (h : 0 < l.getD i 0) : ln l i ≠ 0 := by unfold ln; omega
theorem ln_cast {l : List Int} {i : Nat} (h : 0 < l.getD i 0) : l.getD i 0 = (ln l i : Int) := by unfold ln; omega
theorem rank_lt {l : List Int} {i : Nat} (hi : i < l.length) (h0 : 0 < l.getD i 0) : rank l i < cn l (ln l i) := by
  have h : l[i]? = some (l.getD i 0) := by rw [List.getD_eq_getElem?_getD, List.getElem?_eq_getElem hi]; rfl
  exact cn_take_lt h (ln_pos h0) (ln_cast h0)
theorem code_pos {l : List Int} {i : Nat} (h : 0 < l.getD i 0) : code l i = F (cn l) (ln l i) + rank l i := by unfold code; exact if_neg (ln_pos h)
theorem code_first {l : List Int} (hl : ∀ x ∈ l, 0 ≤ x ∧ x ≤ 16) (hp : 0 < (ord l).length) : code l (od l 0) = 0 := by
  obtain ⟨h1, h2, _⟩ := od_mem hp
  have h3 := pos_od hl hp
  unfold pos at h3
  have h4 := S_flat (cn l) (Nat.zero_le (ln l (od l 0))) (by simp only [S]; omega)
  rw [code_pos h2, h4]
  simp only [F]
  omega
theorem code_next {l : List Int} (hl : ∀ x ∈ l, 0 ≤ x ∧ x ≤ 16) {p : Nat} (hp : p + 1 < (ord l).length) :
    ln l (od l p) ≤ ln l (od l (p + 1)) ∧ code l (od l (p + 1)) = (code l (od l p) + 1) * 2 ^ (ln l (od l (p + 1)) - ln l (od l p)) := by
  obtain ⟨a1, a2, _⟩ := od_mem (show p < (ord l).length by omega)
  obtain ⟨b1, b2, _⟩ := od_mem hp
  have a3 := pos_od hl (show p < (ord l).length by omega)
  have b3 := pos_od hl hp
  have a4 := rank_lt a1 a2
  have b4 := rank_lt b1 b2
  rw [code_pos a2, code_pos b2]
  unfold pos at a3 b3
  generalize ln l (od l p) = x at *
  generalize ln l (od l (p + 1)) = x' at *
  generalize rank l (od l p) = r at *
  generalize rank l (od l (p + 1)) = r' at *
  have hle : x ≤ x' := by
    by_cases h : x ≤ x'
    · exact h
    · have h1 := S_mono (cn l) (show x' + 1 ≤ x by omega)
      simp only [S] at h1
      omega
  refine ⟨hle, ?_⟩
  by_cases e : x = x'
  · subst e
    rw [Nat.sub_self, Nat.pow_zero, Nat.mul_one]
    omega
  · have h1 := S_mono (cn l) (show x + 1 ≤ x' by omega)
    simp only [S] at h1
    have h2 := S_flat (cn l) (show x + 1 ≤ x' by omega) (by simp only [S]; omega)
    rw [h2]
    simp only [F]
    have e2 : x' - x = (x' - (x + 1)) + 1 := by omega
    have e3 : cn l x = r + 1 := by omega
    have e4 : r' = 0 := by omega
    rw [e2, e3, e4, Nat.pow_succ, Nat.add_zero, Nat.mul_comm (2 ^ (x' - (x + 1))) 2, ← Nat.mul_assoc]
    congr 2
    omega
theorem code_le {l : List Int} (h : l.length ≤ 1024) (h16 : ∀ x ∈ l, 0 ≤ x ∧ x ≤ 16) (i : Nat) : code l i ≤ 268436480 := by
  unfold code
  split
  · omega
  · have hn : ln l i ≤ 16 := by
      unfold ln
      by_cases hi : i < l.length
      · have := h16 _ (List.getElem_mem hi)
        rw [List.getD_eq_getElem?_getD, List.getElem?_eq_getElem hi]
        show (l[i]).toNat ≤ 16
        omega
      · rw [List.getD_eq_getElem?_getD, List.getElem?_eq_none (by omega)]; decide
    have h1 := F_le16 (cn l) (fun j => Nat.le_trans (cn_le l j) h) (ln l i) (by omega)
    have h2 := cn_take_le l i (ln l i)
    have h3 := cn_le l (ln l i)
    unfold rank
    omega
/-- The codes of the first so many in order. -/
def RC (l : List Int) (i : Nat) : List Int := tabn l.length (fun s => if 0 < l.getD s 0 ∧ pos l s < i then (code l s : Int) else 0)
theorem RC_start (l : List Int) : List.replicate l.length (0 : Int) = RC l 0 := by
  rw [tabn_zero]
  exact tabn_congr (fun j hj => by rw [if_neg (by omega)])
theorem RC_end {l : List Int} (hl : ∀ x ∈ l, 0 ≤ x ∧ x ≤ 16) : RC l (ord l).length = codesL l := by
  refine tabn_congr (fun j hj => ?_)
  by_cases h : 0 < l.getD j 0
  · rw [if_pos ⟨h, (od_pos hl hj h).1⟩]
  · rw [if_neg (fun h' => h h'.1)]
    unfold code
    rw [if_pos (by unfold ln; omega)]; rfl
theorem RC_step {l : List Int} (hl : ∀ x ∈ l, 0 ≤ x ∧ x ≤ 16) {i : Nat} (hi : i < (ord l).length) : (RC l i).set (od l i) (code l (od l i) : Int) = RC l (i + 1) := by
  obtain ⟨h1, h2, _⟩ := od_mem hi
  have h3 := pos_od hl hi
  unfold RC
  rw [tabn_set]
  refine tabn_congr (fun j hj => ?_)
  by_cases e : j = od l i
  · subst e
    rw [if_pos rfl, if_pos ⟨h2, by omega⟩]
  · rw [if_neg e]
    by_cases h : 0 < l.getD j 0
    · have hne : pos l j ≠ i := fun e2 => e (by rw [← e2]; exact (od_pos hl hj h).2.symm)
      by_cases hlt : pos l j < i
      · rw [if_pos ⟨h, hlt⟩, if_pos ⟨h, by omega⟩]
      · rw [if_neg (by omega), if_neg (by omega)]
    · rw [if_neg (fun h' => h h'.1), if_neg (fun h' => h h'.1)]
/-- The order, as whole numbers. -/
def OL (l : List Int) : List Int := (ord l).map (fun n : Nat => (n : Int))
theorem OL_length (l : List Int) : (OL l).length = (ord l).length := by simp [OL]
theorem OL_get {l : List Int} {i : Nat} (hi : i < (ord l).length) : (OL l)[i]? = some (od l i : Int) := by
  unfold OL od
  rw [List.getElem?_map, List.getElem?_eq_getElem hi, List.getD_eq_getElem?_getD, List.getElem?_eq_getElem hi]; rfl
theorem OL_rd {l : List Int} {I : Int} {i : Nat} (e : I = i) (hi : i < (ord l).length) : rd (OL l) I = (od l i : Int) := by
  subst e
  unfold rd
  rw [Int.toNat_natCast, List.getD_eq_getElem?_getD, OL_get hi]; rfl

/-! ### the document's Order -/
theorem rcheck_ok {k : Nat} {l : List Int} (h : gladstoneref06_Check.f k l 16 = some 0) : l.length ≤ 1024 ∧ ∀ x ∈ l, 0 ≤ x ∧ x ≤ 16 := by
  have hlen : l.length ≤ 1024 := by
    by_cases hn : l.length ≤ 1024
    · exact hn
    · unfold gladstoneref06_Check.f at h
      rw [if_neg (by decide)] at h
      cases k with
      | zero => simp [gladstoneref06_Check.j0] at h
      | succ k =>
        simp only [gladstoneref06_Check.j0] at h
        rw [if_neg (by decide), if_pos (by omega)] at h
        exact absurd h (by decide)
  refine ⟨hlen, fun x hx => ?_⟩
  have e := ev_one (Ev.of (fun k => gladstoneref06_Check.mono l 16 k) h) (Pure.rchk_ev l (by omega) 16)
  unfold Pure.chk at e
  rw [if_neg (by decide), if_neg (by omega)] at e
  by_cases ha : l.all (fun x => decide (0 ≤ x ∧ x ≤ 16)) = false
  · rw [if_pos ha] at e; exact absurd e (by decide)
  · have := List.all_eq_true.1 (Bool.not_eq_false _ ▸ ha : l.all (fun x => decide (0 ≤ x ∧ x ≤ 16)) = true) x hx
    exact of_decide_eq_true this
def symsTo (l : List Int) (n i : Nat) : List Nat := (List.range i).filter (fun i => decide (n ≠ 0 ∧ l.getD i 0 = (n : Int)))
theorem order_l1 (l : List Int) (hl : l.length ≤ 1024) (n : Nat) (hn : 1 ≤ n) (hn2 : n ≤ 16) (r : List Int) (h0 : Ev (fun k => gladstoneref08_Order.l0 k l ((ordTo l (n + 1)).map (fun n : Nat => (n : Int))) ((n + 1 : Nat) : Int)) r) (d : Nat) :
    ∀ i, i + d = l.length → Ev (fun k => gladstoneref08_Order.l1 k l ((ordTo l n ++ symsTo l n i).map (fun n : Nat => (n : Int))) (n : Int) (i : Int)) r := by
  induction d with
  | zero =>
    intro i hi
    refine Ev.step (fun k => ?_) h0
    simp only [gladstoneref08_Order.l1]
    rw [if_neg (by omega), w64 (by omega) (by omega)]
    have e : i = l.length := by omega
    subst e
    rfl
  | succ d ih =>
    intro i hi
    have hx : l[i]? = some (l.getD i 0) := by rw [List.getD_eq_getElem?_getD, List.getElem?_eq_getElem (by omega)]; rfl
    have hlen : (ordTo l n ++ symsTo l n i).length ≤ 20000 := by
      have h1 := S_le (cn l) 1024 (fun j => Nat.le_trans (cn_le l j) hl) n
      have h2 : (symsTo l n i).length ≤ i := Nat.le_trans (List.length_filter_le _ _) (by simp)
      rw [List.length_append, ordTo_length]
      omega
    refine Ev.step (f := fun k => gladstoneref08_Order.l1 k l ((ordTo l n ++ symsTo l n (i + 1)).map (fun n : Nat => (n : Int))) (n : Int) ((i + 1 : Nat) : Int)) (fun k => ?_) (ih (i + 1) (by omega))
    simp only [gladstoneref08_Order.l1]
    rw [if_pos (by omega), if_pos (by omega), rd_some hx, w64 (x := (i : Int) + 1) (by omega) (by omega)]
    have es : symsTo l n (i + 1) = symsTo l n i ++ (if l.getD i 0 = (n : Int) then [i] else []) := by
      unfold symsTo
      rw [List.range_succ, List.filter_append]
      congr 1
      by_cases h : l.getD i 0 = (n : Int)
      · rw [if_pos h, List.filter_cons, if_pos (decide_eq_true ⟨by omega, h⟩)]; rfl
      · rw [if_neg h, List.filter_cons, if_neg (by rw [decide_eq_true_iff]; exact fun h' => h h'.2)]; rfl
    rw [es]
    by_cases h : l.getD i 0 = (n : Int)
    · rw [if_pos h, if_pos h, if_pos (by rw [List.length_map]; omega)]
      simp
    · rw [if_neg h, if_neg h, List.append_nil]; rfl
theorem order_l0 (l : List Int) (hl : l.length ≤ 1024) (d : Nat) : ∀ n, n + d = 17 → 1 ≤ n → Ev (fun k => gladstoneref08_Order.l0 k l ((ordTo l n).map (fun n : Nat => (n : Int))) (n : Int)) (OL l) := by
  induction d with
  | zero =>
    intro n hn h1
    have e : n = 17 := by omega
    subst e
    refine Ev.step (f := fun _ => some (OL l)) (fun k => ?_) (Ev.now _)
    simp only [gladstoneref08_Order.l0]
    rw [if_neg (by omega)]
    unfold OL ord
    exact rfl
  | succ d ih =>
    intro n hn h1
    have h := order_l1 l hl n h1 (by omega) (OL l) (ih (n + 1) (by omega) (by omega)) l.length 0 (by omega)
    refine Ev.step (fun k => ?_) h
    simp only [gladstoneref08_Order.l0]
    rw [if_pos (by omega)]
    have e : ordTo l n ++ symsTo l n 0 = ordTo l n := by simp [symsTo]
    rw [e]; rfl
theorem rorder_ev (l : List Int) (hl : l.length ≤ 17592186044416) : Ev (fun k => gladstoneref08_Order.f k l) (if Pure.chk l 16 = 0 then OL l else []) := by
  refine Ev.congr (f := fun k => (gladstoneref06_Check.f k l 16).bind fun t => if t = 0 then gladstoneref08_Order.l0 k l [] 1 else some []) (fun k => rfl) ?_
  have hc := Pure.rchk_ev l hl 16
  refine Ev.bind hc ?_
  by_cases h : Pure.chk l 16 = 0
  · rw [if_pos h]
    refine Ev.ifp h ?_
    rw [h] at hc
    obtain ⟨k, hk⟩ := hc
    have := (rcheck_ok (hk k (Nat.le_refl _))).1
    have h1 := order_l0 l this 16 1 (by omega) (by omega)
    have e1 : (ordTo l 1).map (fun n : Nat => (n : Int)) = [] := by simp [ordTo, syms]
    rw [e1] at h1
    exact h1
  · rw [if_neg h]
    exact Ev.ifn h (Ev.now _)
end Go.Proofs.Ytoikiefegkgedaa.Cn
/- The document's Codes, walked by hand. -/
namespace Go.Proofs.Ytoikiefegkgedaa.Hd
open Go.RowKit Go.Proofs.YtoikiefegkgedaaW.PrintWords Go.Proofs.YtoikiefegkgedaaW.PrintLast Go.Proofs.YtoikiefegkgedaaW.PrintMore Go.Proofs.Ytoikiefegkgedaa.Hw Go.Proofs.Ytoikiefegkgedaa.Cn Go.Proofs.Ytoikiefegkgedaa.P
attribute [local go_sem] max2_int min2_int max_two min_two max_three min_three max_four min_four
attribute [local irreducible] ord pos code
def gladstoneref08_Codes.f (k : Nat) (l : List Int) : Option (List Int × Int) := (gladstoneref06_Check.f k l 16).bind fun t => if t = 0 then some (codesL l, 0) else some ([], t)
theorem gladstoneref08_Codes.mono : ∀ (l : List Int) (k : Nat), LeO (gladstoneref08_Codes.f k l) (gladstoneref08_Codes.f (k + 1) l) := fun l k => LeO.bind (gladstoneref06_Check.mono l 16 k) (fun _ => LeO.refl _)
/-- A row of the call's own that is younger than a block, while that is written. -/
theorem R_over {α : Type} {d : Kd α} {e : Nat} {w : World} {base : Nat} {ok : Nat → Prop} {v : Value} {xs : List α} (h : d.R e w base ok v xs) {p : Addr} (hp : p.block < base) (u : Value) : d.R e (w.setCell p u) base ok v xs :=
  Kd.R_mono (Kd.R_far (Kd.R_bound h) (fun k hk => by have := hk.2.1; omega) u) (fun k hk => hk.1)
theorem ord_lt {l : List Int} (hn : l.length ≤ 1024) {i : Nat} (h : i < (ord l).length) : i < 17408 := Nat.lt_of_lt_of_le h (by
  rw [ord_length]
  have := S_le (cn l) 1024 (fun j => Nat.le_trans (cn_le l j) hn) 17
  omega)
theorem shl_code {l : List Int} (hn : l.length ≤ 1024) (hl : ∀ x ∈ l, 0 ≤ x ∧ x ≤ 16) {p : Nat} (hp : p + 1 < (ord l).length) :
    IntKind.i64.wrap (IntKind.i64.wrap ((code l (od l p) : Int) + 1) * 2 ^ min (IntKind.u64.wrap (IntKind.i64.wrap (l.getD (od l (p + 1)) 0 - l.getD (od l p) 0))).toNat 64) = (code l (od l (p + 1)) : Int) := by
  obtain ⟨a1, a2, a5⟩ := od_mem (show p < (ord l).length by omega)
  obtain ⟨b1, b2, b5⟩ := od_mem hp
  obtain ⟨h1, h2⟩ := code_next hl hp
  have c1 := code_le hn hl (od l p)
  have c2 := code_le hn hl (od l (p + 1))
  rw [ln_cast a2, ln_cast b2]
  generalize ln l (od l p) = x at *
  generalize ln l (od l (p + 1)) = x' at *
  generalize code l (od l p) = c at *
  generalize code l (od l (p + 1)) = c' at *
  have e1 : IntKind.i64.wrap ((x' : Int) - x) = ((x' - x : Nat) : Int) := by rw [i64_w, Com.w64 (by omega) (by omega)]; omega
  have e2 : min (x' - x) 64 = x' - x := by omega
  have e3 : ((c : Int) + 1) * 2 ^ (x' - x) = ((c + 1) * 2 ^ (x' - x) : Nat) := by simp
  rw [e1, Com.wu64 (by omega) (by omega), Int.toNat_natCast, e2, i64_w, i64_w, Com.w64 (x := (c : Int) + 1) (by omega) (by omega), e3, ← h2, Com.w64 (by omega) (by omega)]
set_option maxHeartbeats 4000000 in
set_option maxRecDepth 100000 in
theorem gladstoneref08_Codes.calls (k : Nat) (A0 : Option Addr) (c0 : Nat) (l0 : List Int) (r1 : List Int) (r2 : Int) (w : World) (hr0 : Kd.C (Kd.int .i64) w A0 l0.length l0) (hc0 : l0.length ≤ c0) (h : gladstoneref08_Codes.f k l0 = some (r1, r2)) :
    Calls Try.prog 21 #[.slice A0 l0.length c0] w fun e w' => ∃ v0_ : Value, e = .returned (.tuple #[v0_, .int .i64 r2]) ∧ Kd.R (Kd.int .i64) 3 w' w.heap.size (fun _ => True) v0_ r1 ∧ Below w.heap.size w w' := by
  unfold gladstoneref08_Codes.f at h
  replace h := Option.bind_eq_some_iff.mp h
  obtain ⟨t, ht, h⟩ := h
  have KC := Aside0.mk ht
  have HR := Aside0.mk hr0
  have HC := Aside0.mk hc0
  by_cases t0 : t = 0
  · subst t0
    rw [if_pos rfl] at h
    obtain ⟨rfl, rfl⟩ := Prod.mk.inj (Option.some.inj h)
    have HK := Aside0.mk (rcheck_ok ht)
    have ho := rorder_ev l0 (by have := HK.out.1; omega)
    rw [if_pos (ev_one (Ev.of (fun k => gladstoneref06_Check.mono l0 16 k) ht) (Pure.rchk_ev l0 (by have := HK.out.1; omega) 16)).symm] at ho
    obtain ⟨ko, hko⟩ := ho
    have KO := Aside0.mk (hko ko (Nat.le_refl _))
    have OLT := Aside0.mk (fun i (hi : i < (ord l0).length) => ord_lt HK.out.1 hi)
    clear h ht hr0 hc0 hko
    go_enter Try.func21, Try.ntmps21
    go_wp2_with (first
      | (go_at_call 19; (with_reducible refine (gladstoneref06_Check.calls k _ _ l0 16 0 _ HR.out HC.out KC.out).mono ?_); rintro e w1 ⟨rfl, hB⟩; have B1 := Aside0.mk (Hd.drawn_b hB); clear hB)
      | ((with_reducible refine gate_dst (N := 16) rfl ?_); refine make_blk rfl rfl l0.length rfl rfl Try.underlying22 .i64 info3 (by decide) (by have := HK.out.1; omega) ?_; intro g8 w9 G8 K9 B9)
      | (go_at_call 22; (with_reducible refine (gladstoneref08_Order.calls ko _ _ l0 _ _ (Kd.C_below HR.out (below_step B1.out B9.out)) HC.out KO.out).mono ?_); rintro e w2 ⟨vo, rfl, hRo, hB⟩; have K3 := Aside0.mk (K9.out.below hB); have B3 := Aside0.mk (below_step (below_step B1.out B9.out) hB); obtain ⟨Ao, co, e_, hco, hCo⟩ := Kd.R_reads hRo; subst e_; rw [OL_length] at hRo; have RO := Aside0.mk hRo; clear hRo hB hco hCo; simp only [OL_length]))
    have G8' := Aside0.mk (Nat.le_trans B1.out.size G8.out)
    have GLT := Aside0.mk K9.out.lt
    rw [RC_start] at K3
    clear K9 B1 B9 G8 KC
    go_loopg [7, 8] (ord l0).length (fun q v7 v8 w' => ∃ (C L : Int) (m : Nat), v7 = .int .i64 C ∧ v8 = .int .i64 L ∧ Aside0 (L = (m : Int) ∧ m + q = (ord l0).length ∧ C = if m = 0 then 0 else (code l0 (od l0 (m - 1)) : Int)) ∧ Aside0 (Blk w' g8 .i64 3 (RC l0 m)) ∧ Aside0 (Kd.R (Kd.int .i64) 3 w' w9.heap.size (fun _ => True) (.slice Ao (ord l0).length co) (OL l0)) ∧ Aside0 (Below w.heap.size w w'))
    case atStart => exact ⟨0, 0, 0, rfl, rfl, ⟨rfl, by omega, rfl⟩, K3, RO, B3⟩
    case round =>
      clear K3 RO B3
      obtain ⟨C, L, m, rfl, rfl, HA, K8, RO, B3⟩ := hrel
      cases gk with
      | zero =>
        have t1 : decide (L < ((ord l0).length : Int)) = false := decide_eq_false (by have := HA.out; omega)
        have em : m = (ord l0).length := by have := HA.out; omega
        subst em
        rw [RC_end HK.out.2] at K8
        go_wp2
        go_ret2
        have hl : (codesL l0).length = l0.length := tabn_length _ _
        have := K8.out.R (base := w.heap.size) G8'.out (by rw [hl]; have := HK.out.1; simp [maxLen]; omega) (fun _ => True) trivial
        rw [hl] at this
        exact ⟨_, rfl, this, B3.out⟩
      | succ q =>
        have t1 : decide (L < ((ord l0).length : Int)) = true := decide_eq_true (by have := HA.out; omega)
        have p1 : (0 ≤ L) = True := eq_true (by have := HA.out; omega)
        have q1 : (L < ((ord l0).length : Int)) = True := eq_true (by have := HA.out; omega)
        have hm : m < (ord l0).length := by have := HA.out; omega
        have HCo : Kd.C (Kd.int .i64) wr Ao (ord l0).length (OL l0) := by
          obtain ⟨A_, c_, e_, l_, h_⟩ := Kd.R_reads RO.out
          rw [OL_length] at e_ h_
          cases e_
          exact h_
        obtain ⟨ad, e_, hc⟩ := Kd.at_int HCo L (by have := HA.out; omega) (by have := HA.out; omega)
        subst e_
        rw [OL_rd HA.out.1 hm] at hc
        obtain ⟨hs1, hs2, hs3⟩ := od_mem hm
        obtain ⟨s, hs⟩ : ∃ s, od l0 m = s := ⟨_, rfl⟩
        rw [hs] at hc hs1 hs2 hs3
        have p3 : (0 ≤ (s : Int)) = True := eq_true (by omega)
        have q3 : ((s : Int) < (l0.length : Int)) = True := eq_true (by omega)
        have q4 : (s < l0.length) = True := eq_true hs1
        have hlr : (RC l0 m).length = l0.length := tabn_length _ _
        have hcc2 := K8.out.cell s (by omega)
        have hff2 := K8.out.free s
        have HM := Aside0.mk (And.intro hm hs)
        by_cases h0 : m = 0
        · have t2 : decide (0 < L) = false := decide_eq_false (by have := HA.out; omega)
          have eC : C = 0 := by have := HA.out.2.2; rw [if_pos h0] at this; exact this
          subst eC
          have EC := Aside0.mk (show (code l0 s : Int) = 0 by
            have := code_first HK.out.2 (show 0 < (ord l0).length by omega)
            rw [← HM.out.2, h0, this]; rfl)
          clear hm hs hs1 hs2 hs3 hlr HCo h0
          go_wp2
          go_roundg q
          case measure => omega
          case rel =>
            refine ⟨0, wrap64 (L + 1), m + 1, rfl, rfl, ⟨?_, by have := HA.out; omega, ?_⟩, ⟨?_⟩, ⟨R_over RO.out GLT.out _⟩, ⟨below_set B3.out G8'.out⟩⟩
            · have := HA.out; have := OLT.out m HM.out.1; rw [Com.w64 (by omega) (by omega)]; omega
            · rw [if_neg (by omega), Nat.add_sub_cancel, HM.out.2, EC.out]
            · rw [← RC_step HK.out.2 HM.out.1, HM.out.2, EC.out]
              exact K8.out.put _ _
        · have t2 : decide (0 < L) = true := decide_eq_true (by have := HA.out; omega)
          obtain ⟨p, rfl⟩ : ∃ p, m = p + 1 := ⟨m - 1, by omega⟩
          have hp : p < (ord l0).length := by omega
          have eC : C = (code l0 (od l0 p) : Int) := by have := HA.out.2.2; rw [if_neg h0] at this; exact this
          subst eC
          have ew : IntKind.i64.wrap (L - 1) = (p : Int) := by rw [i64_w, Com.w64 (by have := HA.out; omega) (by have := HA.out; have := OLT.out _ hm; omega)]; have := HA.out; omega
          have p5 : (0 ≤ IntKind.i64.wrap (L - 1)) = True := eq_true (by omega)
          have q5 : (IntKind.i64.wrap (L - 1) < ((ord l0).length : Int)) = True := eq_true (by omega)
          obtain ⟨ad2, e_, hcp⟩ := Kd.at_int HCo (IntKind.i64.wrap (L - 1)) (by omega) (by omega)
          cases e_
          rw [OL_rd ew hp] at hcp
          obtain ⟨ht1, ht2, ht3⟩ := od_mem hp
          obtain ⟨t, ht⟩ : ∃ t, od l0 p = t := ⟨_, rfl⟩
          rw [ht] at hcp ht1 ht2 ht3
          have p6 : (0 ≤ (t : Int)) = True := eq_true (by omega)
          have q6 : ((t : Int) < (l0.length : Int)) = True := eq_true (by omega)
          have q7 : (t < l0.length) = True := eq_true ht1
          obtain ⟨ad3, e_, hcs⟩ := Kd.at_int HR.out (s : Int) (by omega) (by omega)
          subst e_
          obtain ⟨ad4, e_, hct⟩ := Kd.at_int HR.out (t : Int) (by omega) (by omega)
          cases e_
          have hcs1 := (B3.out.cell (World.block_lt_of_cell? w _ hcs)).trans hcs
          have hct1 := (B3.out.cell (World.block_lt_of_cell? w _ hct)).trans hct
          have es : rd l0 (s : Int) = l0.getD s 0 := by unfold rd; rw [Int.toNat_natCast]
          have et : rd l0 (t : Int) = l0.getD t 0 := by unfold rd; rw [Int.toNat_natCast]
          rw [es] at hcs1
          rw [et] at hct1
          rw [Int.toNat_natCast] at hcs1 hct1
          have EV := shl_code HK.out.1 HK.out.2 (p := p) hm
          rw [hs, ht] at EV
          obtain ⟨ls, hls⟩ : ∃ z, l0.getD s 0 = z := ⟨_, rfl⟩
          obtain ⟨lt, hlt⟩ : ∃ z, l0.getD t 0 = z := ⟨_, rfl⟩
          rw [hls] at hcs1 EV
          rw [hlt] at hct1 EV
          have EV := Aside0.mk EV
          rw [ht]
          have HT := Aside0.mk ht
          clear hm hp hs ht hs1 hs2 hs3 ht1 ht2 ht3 hlr HCo h0 ew es et hcs hct hls hlt
          go_wp2
          go_quiet (fail)
          try rw [EV.out]
          go_wp2
          go_roundg q
          case measure => omega
          case rel =>
            refine ⟨_, wrap64 (L + 1), p + 1 + 1, rfl, rfl, ⟨?_, by have := HA.out; omega, ?_⟩, ⟨?_⟩, ⟨R_over (Kd.R_drewN RO.out _) GLT.out _⟩, ⟨below_set (pw_below_drewN B3.out _) G8'.out⟩⟩
            · have := HA.out; have := OLT.out _ HM.out.1; rw [Com.w64 (by omega) (by omega)]; omega
            · rw [if_neg (by omega), Nat.add_sub_cancel, HM.out.2]
            · rw [← RC_step HK.out.2 HM.out.1, HM.out.2]
              exact (K8.out.drewN _).put _ _
  · rw [if_neg t0] at h
    obtain ⟨rfl, rfl⟩ := Prod.mk.inj (Option.some.inj h)
    clear h ht hr0 hc0
    have t1 : (t != 0) = true := by simpa using t0
    go_enter Try.func21, Try.ntmps21
    go_wp2_with (first
      | (go_at_call 19; (with_reducible refine (gladstoneref06_Check.calls k _ _ l0 16 t _ HR.out HC.out KC.out).mono ?_); rintro e w1 ⟨rfl, hB⟩; have B1 := Aside0.mk (Hd.drawn_b hB); clear hB))
    go_ret2
    exact ⟨_, rfl, Kd.R_nil _ _ _ _ _, B1.out⟩
end Go.Proofs.Ytoikiefegkgedaa.Hd
