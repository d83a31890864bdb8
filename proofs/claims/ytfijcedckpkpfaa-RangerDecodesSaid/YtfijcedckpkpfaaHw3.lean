/- Words for walks by hand, of rows of bools that are made here. -/
import Derived.Test.YtfijcedckpkpfaaHw2
set_option linter.unusedVariables false
set_option linter.unusedSimpArgs false
set_option linter.unusedSectionVars false
namespace Go.Proofs.Ytfijcedckpkpfaa.Hw
open Go Go.RowKit Go.Proofs.YtfijcedckpkpfaaW.PrintWords
def bools (r : List Bool) : Array Value := (r.map Value.bool).toArray
theorem bools_get {r : List Bool} {i : Nat} (h : i < r.length) : (bools r)[i]? = some (.bool (r.getD i false)) := by
  simp [bools, List.getD_eq_getElem?_getD, List.getElem?_eq_getElem h]
theorem bools_set {r : List Bool} (i : Nat) (x : Bool) : (bools r).setIfInBounds i (.bool x) = bools (r.set i x) := by
  simp [bools, List.map_set]
def BlB (W : World) (g : Nat) (t : TypeId) (r : List Bool) : Prop := W.heap[g]? = some (.cells (bools r) t (0, 0))
section
variable {W W1 : World} {g : Nat} {t : TypeId} {r : List Bool}
theorem BlB.cell (h : BlB W g t r) (i : Nat) (hi : i < r.length) : W.cell? ⟨g, i, none⟩ = some (.bool (r.getD i false)) := (blk_cell h i).trans (bools_get hi)
theorem BlB.free (h : BlB W g t r) (i : Nat) : W.frozen? ⟨g, i, none⟩ = false := blk_frozen h i
theorem BlB.put (h : BlB W g t r) (i : Nat) (x : Bool) : BlB (W.setCell ⟨g, i, none⟩ (.bool x)) g t (r.set i x) := blk_put h i _ (bools_set i x)
theorem BlB.below (h : BlB W g t r) (hb : Below W.heap.size W W1) : BlB W1 g t r := blk_below h hb
theorem BlB.lt (h : BlB W g t r) : g < W.heap.size := blk_lt h
theorem BlB.grown (h : BlB W g t r) {row : Option Nat} (hg : W.grownBy W1 row) (hne : some g ≠ row) : BlB W1 g t r := blk_grown h hg hne
theorem BlB.R {base : Nat} (h : BlB W g t r) (hb : base ≤ g) (hm : r.length ≤ maxLen) (ok : Nat → Prop) (hok : ok g) : Kd.R Kd.bool t W base ok (.slice (some ⟨g, 0, none⟩) r.length r.length) r := by
  refine Kd.R_of_own ?_ (fun j hj => by simp [Value.ownBlock] at hj; subst hj; exact hok)
  refine ⟨by simp [encs], .inr ⟨g, r.length, bools r, rfl, hb, h, Nat.le_refl _, hm, by simp [bools], ?_⟩⟩
  simp only [bools, encs]
  rw [List.take_of_length_le (by simp)]
end
theorem made_bools (n : Nat) : madeCells #[.bool false] n = bools (List.replicate n false) := by
  apply Array.ext_getElem?
  intro i
  simp [madeCells, bools, Array.getElem?_range]
  by_cases h : i < n
  · simp [h, Array.getElem?_replicate, Nat.mod_one]
  · simp [h, Array.getElem?_replicate]
section
variable {P : Program} {ops : Array Oper} {rest : List Oper} {o : Oper} {a : Act} {Q : Exit → Act → World → Prop}
theorem make_bools {W : World} (hgd : o.guard = none) {t e : TypeId} {x y : Operand} (ho : o.op = .makeSlice t x y) (n : Nat) (hx : a.eval x = .int .i64 (n : Int)) (hy : a.eval y = .int .i64 (n : Int))
    (ht : P.underlying t = some (.slice e)) {bytes : Nat} (hinfo : (P.info? e).map (fun i => (i.zero, i.size, i.bytes)) = some (some (.bool false), 1, bytes)) (hb0 : 0 < bytes) (hn : n * bytes ≤ 281474976710656)
    (h : ∀ g w1, Aside0 (W.heap.size ≤ g) → Aside0 (BlB w1 g e (List.replicate n false)) → Aside0 (Below W.heap.size W w1) → wpList P ops Q rest (a.put o.dst (.slice (some ⟨g, 0, none⟩) n n)) w1) : wpList P ops Q (o :: rest) a W := by
  have hr := print_make_int (P := P) t e (.bool false) bytes ht hinfo rfl hb0 (n : Int) (by omega) (by simpa using hn) W
  rw [made_bools] at hr
  simp only [Int.toNat_natCast] at hr
  refine val_event hgd ?_ (h W.heap.size (W.alloc (.cells (bools (List.replicate n false)) e)) ⟨Nat.le_refl _⟩ ⟨blk_new W _⟩ ⟨below_alloc (Below.refl _ _) _⟩)
  simp [execOp, ho, hx, hy, hr]
end
end Go.Proofs.Ytfijcedckpkpfaa.Hw
