/- Words for walks by hand, of arrays that are variables: made, loaded and stored whole. -/
import Derived.Test.YtfijcedckpkpfaaHw
set_option linter.unusedVariables false
set_option linter.unusedSimpArgs false
set_option linter.unusedSectionVars false
namespace Go.Proofs.Ytfijcedckpkpfaa.Hw
open Go Go.RowKit Go.Proofs.YtfijcedckpkpfaaW.PrintWords
section
variable {P : Program} {ops : Array Oper} {rest : List Oper} {o : Oper} {a : Act} {Q : Exit → Act → World → Prop}
theorem alloc_blk {W : World} (hgd : o.guard = none) {t : TypeId} {z : Value} {size bytes : Nat} (ho : o.op = .alloc t) (hinfo : (P.info? t).map (fun i => (i.zero, i.size, i.bytes)) = some (some z, size, bytes)) (k : IntKind) (r : List Int) (hc : z.cells = ints k r)
    (h : ∀ g w1, Aside0 (W.heap.size ≤ g) → Aside0 (Blk w1 g k t r) → Aside0 (Below W.heap.size W w1) → wpList P ops Q rest (a.put o.dst (.pointer (some ⟨g, 0, none⟩))) w1) : wpList P ops Q (o :: rest) a W :=
  alloc_event hgd ho hinfo hc (h _ _ ⟨Nat.le_refl _⟩ ⟨Blk.new _ _ _ _⟩ ⟨below_alloc (Below.refl _ _) _⟩)
theorem make_blk {W : World} (hgd : o.guard = none) {t e : TypeId} {x y : Operand} (ho : o.op = .makeSlice t x y) (n : Nat) (hx : a.eval x = .int .i64 (n : Int)) (hy : a.eval y = .int .i64 (n : Int))
    (ht : P.underlying t = some (.slice e)) (k : IntKind) {bytes : Nat} (hinfo : (P.info? e).map (fun i => (i.zero, i.size, i.bytes)) = some (some (.int k 0), 1, bytes)) (hb0 : 0 < bytes) (hn : n * bytes ≤ 281474976710656)
    (h : ∀ g w1, Aside0 (W.heap.size ≤ g) → Aside0 (Blk w1 g k e (List.replicate n 0)) → Aside0 (Below W.heap.size W w1) → wpList P ops Q rest (a.put o.dst (.slice (some ⟨g, 0, none⟩) n n)) w1) : wpList P ops Q (o :: rest) a W :=
  make_event hgd ho n hx hy ht k hinfo hb0 hn (h _ _ ⟨Nat.le_refl _⟩ ⟨Blk.new _ _ _ _⟩ ⟨below_alloc (Below.refl _ _) _⟩)
theorem ints_one (k : IntKind) (r : List Int) : (ints k r).all (·.oneCell') = true := by
  simp [ints, Value.oneCell']
theorem load_blk {W : World} (hgd : o.guard = none) (ty : TypeId) (x : Operand) (ho : o.op = .load ty x) (g : Nat) (hx : a.eval x = .pointer (some ⟨g, 0, none⟩)) (k : IntKind) (r : List Int) (hg : Blk W g k ty r)
    (d : TypeDesc) (hu : P.underlying ty = some d) (hd : (match d with | .struct _ | .array _ _ => true | _ => false) = true) (hi : (P.info? ty).map (·.size) = some r.length)
    (h : wpList P ops Q rest (a.put o.dst (.agg (ints k r))) W) : wpList P ops Q (o :: rest) a W :=
  wpList_load_row hgd ty x ho g hx ty (ints k r) (0, 0) d hg hu hd (by rw [ints_size]; exact hi) h
theorem store_blk {W : World} (hgd : o.guard = none) (ty : TypeId) (x y : Operand) (ho : o.op = .store ty x y) (g : Nat) (k : IntKind) (r xs : List Int) (hx : a.eval x = .pointer (some ⟨g, 0, none⟩)) (hy : a.eval y = .agg (ints k xs)) (hg : Blk W g k ty r)
    (hi : (P.info? ty).map (·.size) = some xs.length) (hl : r.length = xs.length)
    (h : ∀ w1, Aside0 (Blk w1 g k ty xs) → Aside0 (W.grownBy w1 (some g)) → wpList P ops Q rest (a.put o.dst undef) w1) : wpList P ops Q (o :: rest) a W :=
  wpList_store_row hgd ty x y ho g (ints k xs) hx hy ty (ints k r) hg (by rw [ints_size]; exact hi) (by rw [ints_size, ints_size]; exact hl) (ints_one k xs)
    (h _ ⟨setRow_heap W g _ _ ty _ hg⟩ ⟨grown_row W g _⟩)
theorem below_grown {B g : Nat} {w0 w w1 : World} (h : Below B w0 w) (hg : w.grownBy w1 (some g)) (hB : B ≤ g) (hBs : B ≤ w.heap.size) : Below B w0 w1 :=
  ⟨hg.os.trans h.os, hg.tape.trans h.tape, hg.output.trans h.output, Nat.le_trans h.size hg.size, fun i hi => (hg.block i (by omega) (fun e => by injection e with e; omega)).trans (h.block i hi)⟩
theorem blk_ret {fn : Func} {p : Tmp} {ty : TypeId} (h : fn.results = #[.cell p ty]) (tmps : Array Value) (w : World) (g : Nat) (k : IntKind) (r : List Int) (d : TypeDesc)
    (hp : tmps.getD p undef = .pointer (some ⟨g, 0, none⟩)) (hg : Blk w g k ty r) (hu : P.underlying ty = some d) (hd : (match d with | .struct _ | .array _ _ => true | _ => false) = true) (hi : (P.info? ty).map (·.size) = some r.length) :
    (results fn tmps).run P w = .ok (.agg (ints k r)) w := results_cell_row h tmps w g ty (ints k r) (0, 0) d hp hg hu hd (by rw [ints_size]; exact hi)
end
/-- A row, cell by cell. -/
theorem Blk.same {W W1 : World} {g : Nat} {k : IntKind} {t : TypeId} {r : List Int} (h : Blk W g k t r) (he : W1.heap[g]? = W.heap[g]?) : Blk W1 g k t r := he.trans h
end Go.Proofs.Ytfijcedckpkpfaa.Hw
