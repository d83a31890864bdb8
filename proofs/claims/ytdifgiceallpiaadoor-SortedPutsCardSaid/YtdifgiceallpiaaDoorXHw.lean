/- Words for walks by hand: this session's own laws beside the kit's. -/
import Derived.Test.YtdifgiceallpiaaDoorXWWords
import Derived.Laws.CopyOwn
import Derived.Lib.ConvBytes
set_option linter.unusedVariables false
set_option linter.unusedSimpArgs false
set_option linter.unusedSectionVars false
namespace Go.Proofs.YtdifgiceallpiaaDoor.Hw
open Go Go.RowKit YtdifgiceallpiaaDoorW.PrintWords
section
variable {P : Program} {ops : Array Oper} {rest : List Oper} {o : Oper} {a : Act} {Q : Exit → Act → World → Prop}
theorem val_event {W w1 : World} {v : Value} (hgd : o.guard = none) (hrun : (execOp a.eval o).run P W = .ok (.value v) w1) (h : wpList P ops Q rest (a.put o.dst v) w1) : wpList P ops Q (o :: rest) a W := by
 refine wpList_plain hgd fun K hK => ?_
 unfold Oper.wp
 rw [hrun]
 show K (a.put o.dst v) w1
 exact hK _ _ h
theorem run_alloc {ρ : Operand → Value} {t : TypeId} {z : Value} {i : TypeInfo} (ho : o.op = .alloc t) (hi : P.info? t = some i) (hz : i.zero = some z) (W : World) :
  (execOp ρ o).run P W = .ok (.value (.pointer (some ⟨W.heap.size, 0, none⟩))) (W.alloc (.cells z.cells t)) := by
 simp [execOp, ho, Instr.alloc, zeroValue, typeInfo, hi, hz, newVar, newRow]
theorem alloc_event {W : World} (hgd : o.guard = none) {t : TypeId} {z : Value} {size bytes : Nat} {cs : Array Value} (ho : o.op = .alloc t) (hinfo : (P.info? t).map (fun i => (i.zero, i.size, i.bytes)) = some (some z, size, bytes)) (hc : z.cells = cs)
  (h : wpList P ops Q rest (a.put o.dst (.pointer (some ⟨W.heap.size, 0, none⟩))) (W.alloc (.cells cs t))) : wpList P ops Q (o :: rest) a W := by
 obtain ⟨i, hi, hz, _, _⟩ := info_parts hinfo
 subst hc
 exact val_event hgd (run_alloc ho hi hz W) h
end
def ints (k : IntKind) (r : List Int) : Array Value := (r.map (Value.int k)).toArray
theorem ints_get {k : IntKind} {r : List Int} {i : Nat} (h : i < r.length) : (ints k r)[i]? = some (.int k (r.getD i 0)) := by
 simp [ints, List.getD_eq_getElem?_getD, List.getElem?_eq_getElem h]
theorem ints_set {k : IntKind} {r : List Int} (i : Nat) (x : Int) : (ints k r).setIfInBounds i (.int k x) = ints k (r.set i x) := by
 simp [ints, List.map_set]
theorem ints_size (k : IntKind) (r : List Int) : (ints k r).size = r.length := by simp [ints]
def Blk (W : World) (g : Nat) (k : IntKind) (t : TypeId) (r : List Int) : Prop := W.heap[g]? = some (.cells (ints k r) t (0, 0))
section
variable {W : World} {g : Nat} {k : IntKind} {t : TypeId} {r : List Int}
theorem Blk.cell (h : Blk W g k t r) (i : Nat) (hi : i < r.length) : W.cell? ⟨g, i, none⟩ = some (.int k (r.getD i 0)) := (zah h i).trans (ints_get hi)
theorem Blk.free (h : Blk W g k t r) (i : Nat) : W.frozen? ⟨g, i, none⟩ = false := zao h i
theorem Blk.put (h : Blk W g k t r) (i : Nat) (x : Int) : Blk (W.setCell ⟨g, i, none⟩ (.int k x)) g k t (r.set i x) := zb2 h i _ (ints_set i x)
theorem Blk.far (h : Blk W g k t r) {p : Addr} (hp : g ≠ p.block) (u : Value) : Blk (W.setCell p u) g k t r := zbo h hp u
theorem Blk.alloc (h : Blk W g k t r) (o : Obj) : Blk (W.alloc o) g k t r := za7 h o
theorem Blk.drewN (h : Blk W g k t r) (n : Nat) : Blk (W.drewN n) g k t r := h
theorem Blk.drew (h : Blk W g k t r) : Blk W.drew g k t r := h
theorem Blk.below {W1 : World} (h : Blk W g k t r) (hb : Below W.heap.size W W1) : Blk W1 g k t r := za6 h hb
theorem Blk.lt (h : Blk W g k t r) : g < W.heap.size := zb0 h
theorem Blk.new (W : World) (k : IntKind) (t : TypeId) (r : List Int) : Blk (W.alloc (.cells (ints k r) t)) W.heap.size k t r := zck W _
end
section
variable {P : Program} {ops : Array Oper} {rest : List Oper} {o : Oper} {a : Act} {Q : Exit → Act → World → Prop}
theorem grown_row (w : World) (g : Nat) (cs : Array Value) : w.grownBy (w.setRow g cs) (some g) := ⟨rfl, rfl, rfl, by simp [World.setRow], fun i _ hne => setRow_other w g i cs (fun e => hne (by rw [e]))⟩
theorem grown_set {w w1 : World} {g : Nat} (h : w.grownBy w1 (some g)) (i : Nat) (u : Value) : w.grownBy (w1.setCell ⟨g, i, none⟩ u) (some g) :=
 ⟨h.os, h.tape, h.output, by simpa using h.size, fun j hj hne => (Below.heap_setCell w1 ⟨g, i, none⟩ u j (fun e => hne (by rw [e]))).trans (h.block j hj hne)⟩
theorem Blk.grown {W W1 : World} {g : Nat} {k : IntKind} {t : TypeId} {r : List Int} {row : Option Nat} (h : Blk W g k t r) (hg : W.grownBy W1 row) (hne : some g ≠ row) : Blk W1 g k t r := zby h hg hne
theorem copy_event {w : World} (hgd : o.guard = none) (d s : Operand) (dT sT : TypeId)
  (ho : o.op = .call { callee := .builtin .copy, args := #[d, s], argTypes := #[dT, sT] }) (elem : TypeId) (hu : P.underlying dT = some (.slice elem)) (hsz : (P.info? elem).map (·.size) = some 1)
  {dp sp : Option Addr} {dLen dCap sLen sCap : Nat} (hd : a.eval d = .slice dp dLen dCap) (hs : a.eval s = .slice sp sLen sCap)
  (g off : Nat) (k : IntKind) (t : TypeId) (r xs : List Int) (hg : Blk w g k t r) (hn : xs.length = Nat.min sLen dLen)
  (hpos : 0 < xs.length → dp = some ⟨g, off, none⟩ ∧ ∃ ad, sp = some ad ∧ ∀ j, j < xs.length → w.cell? (ad.add j) = some (.int k (xs.getD j 0)))
  (hfit : off + xs.length ≤ r.length)
  (h : ∀ w', zaa (Blk w' g k t (r.take off ++ (xs ++ r.drop (off + xs.length)))) → w.grownBy w' (some g) → wpList P ops Q rest (a.put o.dst (goInt xs.length)) w') :
  wpList P ops Q (o :: rest) a w := by
 by_cases h0 : xs.length = 0
 ·obtain rfl : xs = [] := List.eq_nil_of_length_eq_zero h0
  refine wpList_copy_nothing hgd d s dT sT ho elem hu hsz dp sp dLen dCap sLen sCap hd hs (by simpa using hn.symm) ?_
  exact h w ⟨by simpa using hg⟩ ⟨rfl, rfl, rfl, Nat.le_refl _, fun _ _ _ => rfl⟩
 ·obtain ⟨rfl, ad, rfl, hsrc⟩ := hpos (by omega)
  have hl : (xs.map (Value.int k)).length = xs.length := by simp
  refine wpList_copy_own hgd d s dT sT ho elem hu hsz g off dLen dCap ad sLen sCap hd hs (ints k r) t hg (xs.map (Value.int k)) (by rw [hl]; exact hn) (fun j v hj => ?_) (by rw [hl, ints_size]; exact hfit) (fun v hv => ?_) ?_
  ·have hjl : j < xs.length := by
    have := (List.getElem?_eq_some_iff.1 hj).1
    simpa using this
   rw [List.getElem?_map, List.getElem?_eq_getElem hjl] at hj
   have hv : Value.int k xs[j] = v := by simpa using hj
   rw [hsrc j hjl, ← hv]
   simp [List.getD_eq_getElem?_getD, List.getElem?_eq_getElem hjl]
  ·obtain ⟨x, _, rfl⟩ := List.mem_map.1 hv
   rfl
  ·rw [hl]
   refine h _ ⟨?_⟩ (grown_row w g _)
   have := setRow_heap w g _ ((ints k r).toList.take off ++ (xs.map (Value.int k) ++ (ints k r).toList.drop (off + xs.length))).toArray t _ hg
   unfold Blk
   rw [this]
   simp [ints, List.map_take, List.map_drop]
end
theorem Blk.R {W : World} {g base : Nat} {k : IntKind} {e : TypeId} {r : List Int} (h : Blk W g k e r) (hb : base ≤ g) (hm : r.length ≤ maxLen) (ok : Nat → Prop) (hok : ok g) : Kd.R (Kd.int k) e W base ok (.slice (some ⟨g, 0, none⟩) r.length r.length) r := by
 refine Kd.R_of_own ?_ (fun j hj => by simp [Value.ownBlock] at hj; subst hj; exact hok)
 refine ⟨by simp [encs], .inr ⟨g, r.length, ints k r, rfl, hb, h, Nat.le_refl _, hm, by rw [ints_size]; simp, ?_⟩⟩
 simp only [ints, encs]
 rw [List.take_of_length_le (by simp)]
theorem made_ints (k : IntKind) (n : Nat) : madeCells #[.int k 0] n = ints k (List.replicate n 0) := by
 apply Array.ext_getElem?
 intro i
 simp [madeCells, ints, Array.getElem?_range]
 by_cases h : i < n
 ·simp [h, Array.getElem?_replicate, Nat.mod_one]
 ·simp [h, Array.getElem?_replicate]
section
variable {P : Program} {ops : Array Oper} {rest : List Oper} {o : Oper} {a : Act} {Q : Exit → Act → World → Prop}
theorem make_event {W : World} (hgd : o.guard = none) {t e : TypeId} {x y : Operand} (ho : o.op = .makeSlice t x y) (n : Nat) (hx : a.eval x = .int .i64 (n : Int)) (hy : a.eval y = .int .i64 (n : Int))
  (ht : P.underlying t = some (.slice e)) (k : IntKind) {bytes : Nat} (hinfo : (P.info? e).map (fun i => (i.zero, i.size, i.bytes)) = some (some (.int k 0), 1, bytes)) (hb0 : 0 < bytes) (hn : n * bytes ≤ 281474976710656)
  (h : wpList P ops Q rest (a.put o.dst (.slice (some ⟨W.heap.size, 0, none⟩) n n)) (W.alloc (.cells (ints k (List.replicate n 0)) e))) : wpList P ops Q (o :: rest) a W := by
 have hr := print_make_int (P := P) t e (.int k 0) bytes ht hinfo rfl hb0 (n : Int) (by omega) (by simpa using hn) W
 rw [made_ints] at hr
 simp only [Int.toNat_natCast] at hr
 refine val_event hgd ?_ h
 simp [execOp, ho, hx, hy, hr]
end
def Byt (W : World) (b : Nat) (s : ByteArray) : Prop := ∃ cs e fr, W.heap[b]? = some (.cells cs e fr) ∧ ∀ j, j < s.size → cs[j]? = some (.int .u8 (bt s (j : Int)))
section
variable {W : World} {b : Nat} {s : ByteArray}
theorem Byt.cell (h : Byt W b s) (j : Nat) (hj : j < s.size) : W.cell? ⟨b, j, none⟩ = some (.int .u8 (bt s (j : Int))) := by
 obtain ⟨cs, e, fr, hb, hc⟩ := h
 exact (cell_of_row W b j cs e fr hb).trans (hc j hj)
theorem Byt.lt (h : Byt W b s) : b < W.heap.size := by
 obtain ⟨cs, e, fr, hb, _⟩ := h
 exact zb0 hb
theorem Byt.of_heap {W1 : World} (h : Byt W b s) (he : W1.heap[b]? = W.heap[b]?) : Byt W1 b s := by
 obtain ⟨cs, e, fr, hb, hc⟩ := h
 exact ⟨cs, e, fr, he.trans hb, hc⟩
theorem Byt.drewN (h : Byt W b s) (n : Nat) : Byt (W.drewN n) b s := h
theorem Byt.far (h : Byt W b s) {p : Addr} (hp : b ≠ p.block) (u : Value) : Byt (W.setCell p u) b s := h.of_heap (Below.heap_setCell W p u b hp)
theorem Byt.grown {W1 : World} {row : Option Nat} (h : Byt W b s) (hg : W.grownBy W1 row) (hne : some b ≠ row) : Byt W1 b s := h.of_heap (hg.block b h.lt hne)
end
theorem bytes_below (W : World) (e : TypeId) (s : ByteArray) : Below W.heap.size W (Go.Lib.bytesWorld W e s) :=
 ⟨rfl, rfl, rfl, by rw [Go.Lib.bytesWorld_size]; omega, fun i hi => Go.Lib.bytesWorld_at_old W e s i hi⟩
theorem bytes_byt (W : World) (e : TypeId) (s : ByteArray) : Byt (Go.Lib.bytesWorld W e s) W.heap.size s := by
 refine ⟨_, _, _, Go.Lib.bytesWorld_at_new W e s, fun j hj => ?_⟩
 have h2 : j < s.data.size := hj
 simp [Go.Lib.bytesCells, Array.getElem?_append, h2, bt, hj]
 rfl
section
variable {P : Program} {ops : Array Oper} {rest : List Oper} {o : Oper} {a : Act} {Q : Exit → Act → World → Prop}
theorem conv_event {W : World} (hgd : o.guard = none) {src dst e : TypeId} {x : Operand} (ho : o.op = .convert src dst x) (s : ByteArray) (hx : a.eval x = .string s) {u : TypeDesc}
  (hs : P.underlying src = some u) (hd : P.underlying dst = some (.slice e)) (he : P.underlying e = some (.int .u8))
  (h : ∀ w1 c, s.size ≤ c → Byt w1 W.heap.size s → Below W.heap.size W w1 → wpList P ops Q rest (a.put o.dst (.slice (some ⟨W.heap.size, 0, none⟩) s.size c)) w1) : wpList P ops Q (o :: rest) a W := by
 have hr := Go.Lib.run_convert_string_bytes (P := P) W src dst e s hs hd he
 refine val_event (v := .slice (some ⟨W.heap.size, 0, none⟩) s.size (grownCap W s.size 0 e)) hgd ?_ (h _ _ (grownCap_ge W s.size 0 e) (bytes_byt W e s) (bytes_below W e s))
 simp [execOp, ho, hx, hr]
end
end Go.Proofs.YtdifgiceallpiaaDoor.Hw
/- Words for walks by hand, of arrays that are variables: made, loaded and stored whole. -/
namespace Go.Proofs.YtdifgiceallpiaaDoor.Hw
open Go Go.RowKit YtdifgiceallpiaaDoorW.PrintWords
section
variable {P : Program} {ops : Array Oper} {rest : List Oper} {o : Oper} {a : Act} {Q : Exit → Act → World → Prop}
theorem zcs {W : World} (hgd : o.guard = none) {t : TypeId} {z : Value} {size bytes : Nat} (ho : o.op = .alloc t) (hinfo : (P.info? t).map (fun i => (i.zero, i.size, i.bytes)) = some (some z, size, bytes)) (k : IntKind) (r : List Int) (hc : z.cells = ints k r)
  (h : ∀ g w1, zaa (W.heap.size ≤ g) → zaa (Blk w1 g k t r) → zaa (Below W.heap.size W w1) → wpList P ops Q rest (a.put o.dst (.pointer (some ⟨g, 0, none⟩))) w1) : wpList P ops Q (o :: rest) a W :=
 alloc_event hgd ho hinfo hc (h _ _ ⟨Nat.le_refl _⟩ ⟨Blk.new _ _ _ _⟩ ⟨zac (Below.refl _ _) _⟩)
theorem zce {W : World} (hgd : o.guard = none) {t e : TypeId} {x y : Operand} (ho : o.op = .makeSlice t x y) (n : Nat) (hx : a.eval x = .int .i64 (n : Int)) (hy : a.eval y = .int .i64 (n : Int))
  (ht : P.underlying t = some (.slice e)) (k : IntKind) {bytes : Nat} (hinfo : (P.info? e).map (fun i => (i.zero, i.size, i.bytes)) = some (some (.int k 0), 1, bytes)) (hb0 : 0 < bytes) (hn : n * bytes ≤ 281474976710656)
  (h : ∀ g w1, zaa (W.heap.size ≤ g) → zaa (Blk w1 g k e (List.replicate n 0)) → zaa (Below W.heap.size W w1) → wpList P ops Q rest (a.put o.dst (.slice (some ⟨g, 0, none⟩) n n)) w1) : wpList P ops Q (o :: rest) a W :=
 make_event hgd ho n hx hy ht k hinfo hb0 hn (h _ _ ⟨Nat.le_refl _⟩ ⟨Blk.new _ _ _ _⟩ ⟨zac (Below.refl _ _) _⟩)
theorem ints_one (k : IntKind) (r : List Int) : (ints k r).all (·.oneCell') = true := by
 simp [ints, Value.oneCell']
theorem load_blk {W : World} (hgd : o.guard = none) (ty : TypeId) (x : Operand) (ho : o.op = .load ty x) (g : Nat) (hx : a.eval x = .pointer (some ⟨g, 0, none⟩)) (k : IntKind) (r : List Int) (hg : Blk W g k ty r)
  (d : TypeDesc) (hu : P.underlying ty = some d) (hd : (match d with | .struct _ | .array _ _ => true | _ => false) = true) (hi : (P.info? ty).map (·.size) = some r.length)
  (h : wpList P ops Q rest (a.put o.dst (.agg (ints k r))) W) : wpList P ops Q (o :: rest) a W :=
 wpList_load_row hgd ty x ho g hx ty (ints k r) (0, 0) d hg hu hd (by rw [ints_size]; exact hi) h
theorem store_blk {W : World} (hgd : o.guard = none) (ty : TypeId) (x y : Operand) (ho : o.op = .store ty x y) (g : Nat) (k : IntKind) (r xs : List Int) (hx : a.eval x = .pointer (some ⟨g, 0, none⟩)) (hy : a.eval y = .agg (ints k xs)) (hg : Blk W g k ty r)
  (hi : (P.info? ty).map (·.size) = some xs.length) (hl : r.length = xs.length)
  (h : ∀ w1, zaa (Blk w1 g k ty xs) → zaa (W.grownBy w1 (some g)) → wpList P ops Q rest (a.put o.dst undef) w1) : wpList P ops Q (o :: rest) a W :=
 wpList_store_row hgd ty x y ho g (ints k xs) hx hy ty (ints k r) hg (by rw [ints_size]; exact hi) (by rw [ints_size, ints_size]; exact hl) (ints_one k xs)
  (h _ ⟨setRow_heap W g _ _ ty _ hg⟩ ⟨grown_row W g _⟩)
theorem below_grown {B g : Nat} {w0 w w1 : World} (h : Below B w0 w) (hg : w.grownBy w1 (some g)) (hB : B ≤ g) (hBs : B ≤ w.heap.size) : Below B w0 w1 :=
 ⟨hg.os.trans h.os, hg.tape.trans h.tape, hg.output.trans h.output, Nat.le_trans h.size hg.size, fun i hi => (hg.block i (by omega) (fun e => by injection e with e; omega)).trans (h.block i hi)⟩
end
end Go.Proofs.YtdifgiceallpiaaDoor.Hw
/- Words for walks by hand, of rows of bools that are made here. -/
namespace Go.Proofs.YtdifgiceallpiaaDoor.Hw
open Go Go.RowKit YtdifgiceallpiaaDoorW.PrintWords
def bools (r : List Bool) : Array Value := (r.map Value.bool).toArray
theorem bools_get {r : List Bool} {i : Nat} (h : i < r.length) : (bools r)[i]? = some (.bool (r.getD i false)) := by
 simp [bools, List.getD_eq_getElem?_getD, List.getElem?_eq_getElem h]
theorem bools_set {r : List Bool} (i : Nat) (x : Bool) : (bools r).setIfInBounds i (.bool x) = bools (r.set i x) := by
 simp [bools, List.map_set]
def BlB (W : World) (g : Nat) (t : TypeId) (r : List Bool) : Prop := W.heap[g]? = some (.cells (bools r) t (0, 0))
section
variable {W W1 : World} {g : Nat} {t : TypeId} {r : List Bool}
theorem BlB.cell (h : BlB W g t r) (i : Nat) (hi : i < r.length) : W.cell? ⟨g, i, none⟩ = some (.bool (r.getD i false)) := (zah h i).trans (bools_get hi)
theorem BlB.free (h : BlB W g t r) (i : Nat) : W.frozen? ⟨g, i, none⟩ = false := zao h i
theorem BlB.put (h : BlB W g t r) (i : Nat) (x : Bool) : BlB (W.setCell ⟨g, i, none⟩ (.bool x)) g t (r.set i x) := zb2 h i _ (bools_set i x)
theorem BlB.below (h : BlB W g t r) (hb : Below W.heap.size W W1) : BlB W1 g t r := za6 h hb
end
theorem made_bools (n : Nat) : madeCells #[.bool false] n = bools (List.replicate n false) := by
 apply Array.ext_getElem?
 intro i
 simp [madeCells, bools, Array.getElem?_range]
 by_cases h : i < n
 ·simp [h, Array.getElem?_replicate, Nat.mod_one]
 ·simp [h, Array.getElem?_replicate]
section
variable {P : Program} {ops : Array Oper} {rest : List Oper} {o : Oper} {a : Act} {Q : Exit → Act → World → Prop}
end
end Go.Proofs.YtdifgiceallpiaaDoor.Hw
/- Words for walks by hand: what a call leaves as it was, told by a set of blocks; calls of function values. -/
namespace Go.Proofs.YtdifgiceallpiaaDoor.Hw
open Go Go.RowKit YtdifgiceallpiaaDoorW.PrintWords YtdifgiceallpiaaDoorW.PrintLast
def Kp (S : Nat → Prop) (w w' : World) : Prop := w'.os = w.os ∧ w'.tape = w.tape ∧ w'.output = w.output ∧ w.heap.size ≤ w'.heap.size ∧ ∀ i, i < w.heap.size → ¬ S i → w'.heap[i]? = w.heap[i]?
section
variable {S S' : Nat → Prop} {w w1 w2 : World}
theorem Kp.refl (S : Nat → Prop) (w : World) : Kp S w w := ⟨rfl, rfl, rfl, Nat.le_refl _, fun _ _ _ => rfl⟩
theorem Kp.trans (h : Kp S w w1) (k : Kp S w1 w2) : Kp S w w2 :=
 ⟨k.1.trans h.1, k.2.1.trans h.2.1, k.2.2.1.trans h.2.2.1, Nat.le_trans h.2.2.2.1 k.2.2.2.1, fun i hi hs => (k.2.2.2.2 i (Nat.lt_of_lt_of_le hi h.2.2.2.1) hs).trans (h.2.2.2.2 i hi hs)⟩
theorem Kp.imp (h : Kp S w w1) (hs : ∀ i, i < w.heap.size → S i → S' i) : Kp S' w w1 := ⟨h.1, h.2.1, h.2.2.1, h.2.2.2.1, fun i hi hn => h.2.2.2.2 i hi (fun e => hn (hs i hi e))⟩
theorem Kp.below (h : Below w.heap.size w w1) : Kp S w w1 := ⟨h.os, h.tape, h.output, h.size, fun i hi _ => h.block i hi⟩
theorem Kp.grown {row : Option Nat} (h : w.grownBy w1 row) (hr : ∀ k, row = some k → S k) : Kp S w w1 := ⟨h.os, h.tape, h.output, h.size, fun i hi hn => h.block i hi (fun e => hn (hr i e.symm))⟩
theorem Kp.set (h : Kp S w w1) {p : Addr} (hp : S p.block) (v : Value) : Kp S w (w1.setCell p v) :=
 ⟨h.1, h.2.1, h.2.2.1, by simpa using h.2.2.2.1, fun i hi hn => (Below.heap_setCell w1 p v i (fun e => hn (e ▸ hp))).trans (h.2.2.2.2 i hi hn)⟩
theorem Kp.drew (h : Kp S w w1) : Kp S w w1.drew := h
theorem Kp.at_ (h : Kp S w w1) {i : Nat} {o : Obj} (ho : w.heap[i]? = some o) (hn : ¬ S i) : w1.heap[i]? = some o := (h.2.2.2.2 i (zb0 ho) hn).trans ho
theorem Kp.join {B : Nat} {w0 : World} (h : Below B w0 w) (k : Kp S w w1) (hS : ∀ i, S i → B ≤ i) (hB : B ≤ w.heap.size) : Below B w0 w1 :=
 ⟨k.1.trans h.os, k.2.1.trans h.tape, k.2.2.1.trans h.output, Nat.le_trans h.size k.2.2.2.1, fun i hi => (k.2.2.2.2 i (Nat.lt_of_lt_of_le hi hB) (fun e => absurd (hS i e) (Nat.not_le_of_lt hi))).trans (h.block i hi)⟩
theorem Kp.R {α : Type} {d : Kd α} {e base : Nat} {ok : Nat → Prop} {v : Value} {xs : List α} (h : d.R e w base ok v xs) (k : Kp S w w1) (hok : ∀ i, ok i → base ≤ i → ¬ S i) : d.R e w1 base ok v xs :=
 Kd.R_mono (Kd.R_move (Kd.R_bound h) (fun i hi => k.2.2.2.2 i hi.2.2.1 (hok i hi.1 hi.2.1))) (fun _ hk => hk.1)
end
section
variable {P : Program} {ops : Array Oper} {rest : List Oper} {Q : Exit → Act → World → Prop}
theorem goesV_ {oi : Oper} {a : Act} {w : World} (N : Option Tmp) (hd : oi.dst = N) (hg : oi.guard = none) {f : FuncId} {fn : Func} {x : Operand} {as : Array Operand} {ts : Array TypeId} {fst cap : Array Value} (hf : P.funcs[f]? = some fn) (hname : (fn.name == "runtime.NumGoroutine") = false) (hb : fn.body.isSome = true)
  (hop : oi.op = .call { callee := .value x, args := as, argTypes := ts }) (hx : a.eval x = .func (.func f) fst cap) (args : Array Value) (hargs : fst ++ as.map a.eval ++ cap = args)
  (h : Calls P f args w fun e w' => ∃ v, e = .returned v ∧ wpList P ops Q rest (a.put N v) w') : wpList P ops Q (oi :: rest) a w := by
 refine wpList_plain hg fun K hK => ?_
 have he := enters_ hf hname hb args w
 have hrun : (execOp a.eval oi).run P w = .ok (.enter f args) w := by
  unfold execOp
  simp [hop, resolve, Deferred.ofValue, invoke, hx, hargs, he]
 unfold Oper.wp
 rw [hrun, Oper.upon_enter]
 refine h.mono fun e w'' hh => ?_
 obtain ⟨v, rfl, hk⟩ := hh
 subst hd
 exact hK _ _ hk
end
end Go.Proofs.YtdifgiceallpiaaDoor.Hw
