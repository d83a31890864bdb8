/- Rows of structs, told by a function: made, loaded, stored. -/
import Derived.Test.YtnmggblhbodfgaaHw
import Derived.Deep.MidRow
import Derived.Laws.MakeOwn
set_option linter.unusedVariables false
set_option linter.unusedSimpArgs false
set_option linter.unusedSectionVars false
namespace Go.Proofs.Ytnmggblhbodfgaa.Hw
open Go Go.RowKit Go.Deep Go.Proofs.YtnmggblhbodfgaaW.PrintWords
def Rt (sz n : Nat) (g : Nat → List Value) : Array Value := ((List.range (n * sz)).map (fun j => (g (j / sz)).getD (j % sz) undef)).toArray
section
variable {sz n : Nat} {g g' : Nat → List Value}
theorem Rt_size : (Rt sz n g).size = n * sz := by simp [Rt]
theorem Rt_get {j : Nat} (h : j < n * sz) : (Rt sz n g)[j]? = some ((g (j / sz)).getD (j % sz) undef) := by simp [Rt, List.getElem?_range h]
theorem Rt_none {j : Nat} (h : ¬ j < n * sz) : (Rt sz n g)[j]? = none := by rw [Array.getElem?_eq_none_iff, Rt_size]; omega
theorem idx_div {x j : Nat} (hj : j < sz) : (x * sz + j) / sz = x ∧ (x * sz + j) % sz = j := by
  constructor
  · rw [Nat.mul_comm, Nat.mul_add_div (by omega), Nat.div_eq_of_lt hj, Nat.add_zero]
  · rw [Nat.mul_comm, Nat.mul_add_mod, Nat.mod_eq_of_lt hj]
theorem idx_lt {x j : Nat} (hx : x < n) (hj : j < sz) : x * sz + j < n * sz := by
  have : (x + 1) * sz ≤ n * sz := Nat.mul_le_mul_right _ hx
  rw [Nat.add_mul, Nat.one_mul] at this
  omega
theorem Rt_at {x j : Nat} (hx : x < n) (hj : j < sz) : (Rt sz n g)[x * sz + j]? = some ((g x).getD j undef) := by
  rw [Rt_get (idx_lt hx hj), (idx_div hj).1, (idx_div hj).2]
theorem Rt_congr (h : ∀ x, x < n → g x = g' x) : Rt sz n g = Rt sz n g' := by
  refine Array.ext_getElem? (fun j => ?_)
  by_cases hj : j < n * sz
  · have : j / sz < n := by
      rcases Nat.eq_zero_or_pos sz with rfl | hp
      · simp at hj
      · exact (Nat.div_lt_iff_lt_mul hp).2 hj
    rw [Rt_get hj, Rt_get hj, h _ this]
  · rw [Rt_none hj, Rt_none hj]
def putL : Array Value → Nat → List Value → Array Value
  | C, _, [] => C
  | C, o, v :: r => putL (C.setIfInBounds o v) (o + 1) r
theorem putL_get (vs : List Value) : ∀ (C : Array Value) (o i : Nat), o + vs.length ≤ C.size → (putL C o vs)[i]? = if o ≤ i ∧ i < o + vs.length then vs[i - o]? else C[i]? := by
  induction vs with
  | nil => intro C o i _; rw [putL, if_neg (by simp)]
  | cons v r ih =>
    intro C o i h
    rw [List.length_cons] at h
    rw [putL, ih _ _ _ (by simp; omega)]
    by_cases e : i = o
    · subst e
      rw [if_neg (by omega), if_pos (by simp), Nat.sub_self, Array.getElem?_setIfInBounds]
      simp; omega
    · by_cases h2 : o + 1 ≤ i ∧ i < o + 1 + r.length
      · rw [if_pos h2, if_pos (by simp; omega), show i - o = (i - (o + 1)) + 1 by omega, List.getElem?_cons_succ]
      · rw [if_neg h2, if_neg (by simp; omega), Array.getElem?_setIfInBounds]
        simp; omega
theorem putL_size (vs : List Value) : ∀ (C : Array Value) (o : Nat), (putL C o vs).size = C.size := by
  induction vs with
  | nil => intro C o; rfl
  | cons v r ih => intro C o; rw [putL, ih]; simp
theorem Rt_put {x : Nat} {vs : List Value} (hx : x < n) (hl : vs.length = sz) : putL (Rt sz n g) (x * sz) vs = Rt sz n (fun y => if y = x then vs else g y) := by
  have hle : x * sz + vs.length ≤ (Rt sz n g).size := by
    rw [Rt_size, hl]
    have : (x + 1) * sz ≤ n * sz := Nat.mul_le_mul_right _ hx
    rw [Nat.add_mul, Nat.one_mul] at this
    exact this
  refine Array.ext_getElem? (fun j => ?_)
  rw [putL_get vs _ _ _ hle]
  by_cases hj : j < n * sz
  · have hp : 0 < sz := by
      rcases Nat.eq_zero_or_pos sz with rfl | hp
      · simp at hj
      · exact hp
    have hdm := Nat.div_add_mod j sz
    have hm := Nat.mod_lt j hp
    rw [Rt_get hj, Rt_get hj]
    by_cases e : j / sz = x
    · have e2 : j = x * sz + j % sz := by rw [← e, Nat.mul_comm]; omega
      rw [if_pos (by omega), if_pos e, show j - x * sz = j % sz by omega, List.getD_eq_getElem?_getD, List.getElem?_eq_getElem (by omega)]
      rfl
    · rw [if_neg, if_neg e]
      rintro ⟨h1, h2⟩
      apply e
      have e2 : j = x * sz + (j - x * sz) := by omega
      rw [e2]
      exact (idx_div (by omega)).1
  · rw [Rt_none hj, Rt_none hj, if_neg]
    rintro ⟨h1, h2⟩
    rw [Rt_size] at hle
    omega
end
/-- A block of n structs of sz cells. -/
def Rec (W : World) (b : Nat) (t : TypeId) (sz n : Nat) (g : Nat → List Value) : Prop := W.heap[b]? = some (.cells (Rt sz n g) t (0, 0))
theorem setC_at (vs : List Value) : ∀ {W : World} {b : Nat} {C : Array Value} {t : TypeId} (o : Nat), W.heap[b]? = some (.cells C t (0, 0)) → (W.setCells b o vs).heap[b]? = some (.cells (putL C o vs) t (0, 0)) := by
  induction vs with
  | nil => intro W b C t o h; exact h
  | cons v r ih => intro W b C t o h; exact ih (o + 1) (blk_put h o v rfl)
theorem setC_far (vs : List Value) : ∀ {W : World} {b : Nat} (o i : Nat), i ≠ b → (W.setCells b o vs).heap[i]? = W.heap[i]? := by
  induction vs with
  | nil => intro W b o i _; rfl
  | cons v r ih => intro W b o i h; exact (ih (o + 1) i h).trans (Below.heap_setCell W ⟨b, o, none⟩ v i h)
theorem setC_size (vs : List Value) : ∀ {W : World} {b : Nat} (o : Nat), (W.setCells b o vs).heap.size = W.heap.size := by
  induction vs with
  | nil => intro W b o; rfl
  | cons v r ih => intro W b o; exact (ih (o + 1)).trans (by simp)
theorem below_setC (vs : List Value) : ∀ {w0 W : World} {B b : Nat} (o : Nat), Below B w0 W → B ≤ b → Below B w0 (W.setCells b o vs) := by
  induction vs with
  | nil => intro w0 W B b o h _; exact h
  | cons v r ih => intro w0 W B b o h hb; exact ih (o + 1) (h.setCell (p := ⟨b, o, none⟩) hb v) hb
section
variable {W W1 : World} {b : Nat} {t : TypeId} {sz n : Nat} {g : Nat → List Value}
theorem Rec.cell (h : Rec W b t sz n g) {x j : Nat} (hx : x < n) (hj : j < sz) : W.cell? ⟨b, x * sz + j, none⟩ = some ((g x).getD j undef) := (blk_cell h _).trans (Rt_at hx hj)
theorem Rec.free (h : Rec W b t sz n g) (i : Nat) : W.frozen? ⟨b, i, none⟩ = false := blk_frozen h i
theorem Rec.lt (h : Rec W b t sz n g) : b < W.heap.size := blk_lt h
theorem Rec.below (h : Rec W b t sz n g) (hb : Below W.heap.size W W1) : Rec W1 b t sz n g := blk_below h hb
theorem Rec.same (h : Rec W b t sz n g) (he : W1.heap[b]? = W.heap[b]?) : Rec W1 b t sz n g := he.trans h
theorem Rec.grown (h : Rec W b t sz n g) {row : Option Nat} (hg : W.grownBy W1 row) (hne : some b ≠ row) : Rec W1 b t sz n g := blk_grown h hg hne
theorem Rec.keep (h : Rec W b t sz n g) {g' : Nat} (hk : KeepBut W W1 g' none) (hne : b ≠ g') : Rec W1 b t sz n g := KeepBut.blk hk h hne (by simp)
theorem Rec.congr {g' : Nat → List Value} (h : Rec W b t sz n g) (e : ∀ x, x < n → g x = g' x) : Rec W b t sz n g' := by
  unfold Rec at h ⊢
  rw [h, Rt_congr e]
theorem Rec.put (h : Rec W b t sz n g) {x : Nat} {vs : List Value} (hx : x < n) (hl : vs.length = sz) : Rec (W.setCells b (x * sz) vs) b t sz n (fun y => if y = x then vs else g y) := by
  have := setC_at vs (x * sz) h
  rwa [Rt_put hx hl] at this
theorem Rec.there (h : Rec W b t sz n g) {x : Nat} (hx : x < n) : W.there b (x * sz) sz := fun j hj => ⟨by rw [h.cell hx hj]; rfl, h.free _⟩
theorem Rec.range (h : Rec W b t sz n g) {x : Nat} (hx : x < n) (hl : (g x).length = sz) : W.rangeAt b (x * sz) (g x) := by
  intro j y hy
  have hj : j < (g x).length := (List.getElem?_eq_some_iff.1 hy).1
  rw [h.cell hx (by omega), List.getD_eq_getElem?_getD, hy]
  rfl
end
section
variable {P : Program} {ops : Array Oper} {rest : List Oper} {o : Oper} {a : Act} {Q : Exit → Act → World → Prop}
theorem made_rec (zs : List Value) (n : Nat) (hz : 0 < zs.length) : madeCells zs.toArray (n * zs.length) = Rt zs.length n (fun _ => zs) := by
  refine Array.ext_getElem? (fun j => ?_)
  by_cases hj : j < n * zs.length
  · have hm := Nat.mod_lt j hz
    rw [Rt_get hj]
    simp [madeCells, Array.getElem?_range, hj, hm, List.getD_eq_getElem?_getD]
  · rw [Rt_none hj, Array.getElem?_eq_none_iff, size_madeCells]; omega
theorem make_rec {W : World} (hgd : o.guard = none) {t e : TypeId} {x y : Operand} (ho : o.op = .makeSlice t x y) (n : Nat) (hx : a.eval x = .int .i64 (n : Int)) (hy : a.eval y = .int .i64 (n : Int))
    (ht : P.underlying t = some (.slice e)) (z : Value) (zs : List Value) {bytes : Nat} (hinfo : (P.info? e).map (fun i => (i.zero, i.size, i.bytes)) = some (some z, zs.length, bytes)) (hc : z.cells = zs.toArray) (hz : 0 < zs.length) (hn : bytes * n ≤ 281474976710656) (hn2 : n ≤ 281474976710656)
    (h : ∀ g w1, Aside0 (W.heap.size ≤ g) → Aside0 (Rec w1 g e zs.length n (fun _ => zs)) → Aside0 (Below W.heap.size W w1) → wpList P ops Q rest (a.put o.dst (.slice (some ⟨g, 0, none⟩) n n)) w1) : wpList P ops Q (o :: rest) a W := by
  cases hi : P.info? e with
  | none => simp [hi] at hinfo
  | some i =>
    simp only [hi, Option.map_some, Option.some.injEq, Prod.mk.injEq] at hinfo
    obtain ⟨h1, h2, h3⟩ := hinfo
    have hr := run_make W t e i z ht hi h1 .i64 .i64 (n : Int) (n : Int) (by omega) (by omega) (by rw [h3, ← Int.natCast_mul]; omega) (by omega)
    rw [hc, h2, Int.toNat_natCast, made_rec zs n hz] at hr
    refine val_event hgd (v := .slice (some ⟨W.heap.size, 0, none⟩) n n) (w1 := W.alloc (.cells (Rt zs.length n (fun _ => zs)) e)) ?_ (h _ _ ⟨Nat.le_refl _⟩ ⟨blk_new W _⟩ ⟨below_alloc (Below.refl _ _) _⟩)
    simp [execOp, ho, hx, hy, hr]
theorem store_rec {W : World} (hgd : o.guard = none) (ty : TypeId) (x y : Operand) (ho : o.op = .store ty x y) {b sz n : Nat} {t : TypeId} {g : Nat → List Value} (hR : Rec W b t sz n g) (i : Nat) (hi : i < n) (vs : List Value) (hx : a.eval x = .pointer (some ⟨b, i * sz, none⟩)) (hy : a.eval y = .agg vs.toArray)
    (hs : (P.info? ty).map (·.size) = some sz) (hl : vs.length = sz) (h1 : ∀ v ∈ vs, v.oneCell' = true)
    (h : ∀ w1, Aside0 (Rec w1 b t sz n (fun y => if y = i then vs else g y)) → Aside0 (W.grownBy w1 (some b)) → wpList P ops Q rest (a.put o.dst undef) w1) : wpList P ops Q (o :: rest) a W := by
  refine wpList_store_mid hgd ty x y ho b (i * sz) vs.toArray hx hy ?_ ?_ (all_oneCell_toArray h1) ?_
  · rw [List.size_toArray, hl]; exact hR.there hi
  · rw [List.size_toArray, hl]; exact hs
  · refine h _ ⟨hR.put hi hl⟩ ⟨?_⟩
    have hb := below_setC vs (w0 := W) (W := W) (B := 0) (b := b) (i * sz) (Below.refl _ _) (Nat.zero_le _)
    exact ⟨hb.os, hb.tape, hb.output, by rw [setC_size]; exact Nat.le_refl _, fun k hk hne => setC_far vs _ k (fun e => hne (by rw [e]))⟩
end
end Go.Proofs.Ytnmggblhbodfgaa.Hw
