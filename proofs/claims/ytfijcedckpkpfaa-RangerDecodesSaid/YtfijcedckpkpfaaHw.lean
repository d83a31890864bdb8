/- Words for walks by hand: this session's own laws beside the kit's. -/
import Derived.Test.YtfijcedckpkpfaaWWords
import Derived.Test.YtfijcedckpkpfaaWMore
import Derived.Laws.CopyOwn
import Derived.Lib.ConvBytes
set_option linter.unusedVariables false
set_option linter.unusedSimpArgs false
set_option linter.unusedSectionVars false
namespace Go.Proofs.Ytfijcedckpkpfaa.Hw
open Go Go.RowKit Go.Proofs.YtfijcedckpkpfaaW.PrintWords

section
variable {P : Program} {ops : Array Oper} {rest : List Oper} {o : Oper} {a : Act} {Q : Exit → Act → World → Prop}
/-- An operation that gives a value. -/
theorem val_event {W w1 : World} {v : Value} (hgd : o.guard = none) (hrun : (execOp a.eval o).run P W = .ok (.value v) w1) (h : wpList P ops Q rest (a.put o.dst v) w1) : wpList P ops Q (o :: rest) a W := by
  refine wpList_plain hgd fun K hK => ?_
  unfold Oper.wp
  rw [hrun]
  show K (a.put o.dst v) w1
  exact hK _ _ h
/-- A variable in memory, at its zero. -/
theorem run_alloc {ρ : Operand → Value} {t : TypeId} {z : Value} {i : TypeInfo} (ho : o.op = .alloc t) (hi : P.info? t = some i) (hz : i.zero = some z) (W : World) :
    (execOp ρ o).run P W = .ok (.value (.pointer (some ⟨W.heap.size, 0, none⟩))) (W.alloc (.cells z.cells t)) := by
  simp [execOp, ho, Instr.alloc, zeroValue, typeInfo, hi, hz, newVar, newRow]
theorem alloc_event {W : World} (hgd : o.guard = none) {t : TypeId} {z : Value} {size bytes : Nat} {cs : Array Value} (ho : o.op = .alloc t) (hinfo : (P.info? t).map (fun i => (i.zero, i.size, i.bytes)) = some (some z, size, bytes)) (hc : z.cells = cs)
    (h : wpList P ops Q rest (a.put o.dst (.pointer (some ⟨W.heap.size, 0, none⟩))) (W.alloc (.cells cs t))) : wpList P ops Q (o :: rest) a W := by
  obtain ⟨i, hi, hz, _, _⟩ := info_parts hinfo
  subst hc
  exact val_event hgd (run_alloc ho hi hz W) h
end

/-- A row of whole numbers of a kind, as cells. -/
def ints (k : IntKind) (r : List Int) : Array Value := (r.map (Value.int k)).toArray
theorem ints_get {k : IntKind} {r : List Int} {i : Nat} (h : i < r.length) : (ints k r)[i]? = some (.int k (r.getD i 0)) := by
  simp [ints, List.getD_eq_getElem?_getD, List.getElem?_eq_getElem h]
theorem ints_set {k : IntKind} {r : List Int} (i : Nat) (x : Int) : (ints k r).setIfInBounds i (.int k x) = ints k (r.set i x) := by
  simp [ints, List.map_set]
theorem ints_size (k : IntKind) (r : List Int) : (ints k r).size = r.length := by simp [ints]
/-- A block that is a row of whole numbers. -/
def Blk (W : World) (g : Nat) (k : IntKind) (t : TypeId) (r : List Int) : Prop := W.heap[g]? = some (.cells (ints k r) t (0, 0))
section
variable {W : World} {g : Nat} {k : IntKind} {t : TypeId} {r : List Int}
theorem Blk.cell (h : Blk W g k t r) (i : Nat) (hi : i < r.length) : W.cell? ⟨g, i, none⟩ = some (.int k (r.getD i 0)) := (blk_cell h i).trans (ints_get hi)
theorem Blk.free (h : Blk W g k t r) (i : Nat) : W.frozen? ⟨g, i, none⟩ = false := blk_frozen h i
theorem Blk.put (h : Blk W g k t r) (i : Nat) (x : Int) : Blk (W.setCell ⟨g, i, none⟩ (.int k x)) g k t (r.set i x) := blk_put h i _ (ints_set i x)
theorem Blk.far (h : Blk W g k t r) {p : Addr} (hp : g ≠ p.block) (u : Value) : Blk (W.setCell p u) g k t r := blk_far h hp u
theorem Blk.alloc (h : Blk W g k t r) (o : Obj) : Blk (W.alloc o) g k t r := blk_alloc h o
theorem Blk.drewN (h : Blk W g k t r) (n : Nat) : Blk (W.drewN n) g k t r := h
theorem Blk.drew (h : Blk W g k t r) : Blk W.drew g k t r := h
theorem Blk.below {W1 : World} (h : Blk W g k t r) (hb : Below W.heap.size W W1) : Blk W1 g k t r := blk_below h hb
theorem Blk.lt (h : Blk W g k t r) : g < W.heap.size := blk_lt h
theorem Blk.keep {W1 : World} {g' : Nat} (h : Blk W g k t r) (hk : KeepBut W W1 g' none) (hne : g ≠ g') : Blk W1 g k t r := KeepBut.blk hk h hne (by simp)
theorem Blk.new (W : World) (k : IntKind) (t : TypeId) (r : List Int) : Blk (W.alloc (.cells (ints k r) t)) W.heap.size k t r := blk_new W _
end
section
variable {P : Program} {ops : Array Oper} {rest : List Oper} {o : Oper} {a : Act} {Q : Exit → Act → World → Prop}
theorem grown_row (w : World) (g : Nat) (cs : Array Value) : w.grownBy (w.setRow g cs) (some g) := ⟨rfl, rfl, rfl, by simp [World.setRow], fun i _ hne => setRow_other w g i cs (fun e => hne (by rw [e]))⟩
theorem grown_set {w w1 : World} {g : Nat} (h : w.grownBy w1 (some g)) (i : Nat) (u : Value) : w.grownBy (w1.setCell ⟨g, i, none⟩ u) (some g) :=
  ⟨h.os, h.tape, h.output, by simpa using h.size, fun j hj hne => (Below.heap_setCell w1 ⟨g, i, none⟩ u j (fun e => hne (by rw [e]))).trans (h.block j hj hne)⟩
theorem keep_of_grown {w w1 : World} {g : Nat} (h : w.grownBy w1 (some g)) : KeepBut w w1 g none := ⟨h.size, fun i hi hne _ => h.block i hi (fun e => hne (Option.some.inj e))⟩
theorem Blk.grown {W W1 : World} {g : Nat} {k : IntKind} {t : TypeId} {r : List Int} {row : Option Nat} (h : Blk W g k t r) (hg : W.grownBy W1 row) (hne : some g ≠ row) : Blk W1 g k t r := blk_grown h hg hne
/-- 'copy' into a row of whole numbers that is known whole: 'xs' goes over from place 'off' on. -/
theorem copy_event {w : World} (hgd : o.guard = none) (d s : Operand) (dT sT : TypeId)
    (ho : o.op = .call { callee := .builtin .copy, args := #[d, s], argTypes := #[dT, sT] }) (elem : TypeId) (hu : P.underlying dT = some (.slice elem)) (hsz : (P.info? elem).map (·.size) = some 1)
    {dp sp : Option Addr} {dLen dCap sLen sCap : Nat} (hd : a.eval d = .slice dp dLen dCap) (hs : a.eval s = .slice sp sLen sCap)
    (g off : Nat) (k : IntKind) (t : TypeId) (r xs : List Int) (hg : Blk w g k t r) (hn : xs.length = Nat.min sLen dLen)
    (hpos : 0 < xs.length → dp = some ⟨g, off, none⟩ ∧ ∃ ad, sp = some ad ∧ ∀ j, j < xs.length → w.cell? (ad.add j) = some (.int k (xs.getD j 0)))
    (hfit : off + xs.length ≤ r.length)
    (h : ∀ w', Aside0 (Blk w' g k t (r.take off ++ (xs ++ r.drop (off + xs.length)))) → w.grownBy w' (some g) → wpList P ops Q rest (a.put o.dst (goInt xs.length)) w') :
    wpList P ops Q (o :: rest) a w := by
  by_cases h0 : xs.length = 0
  · obtain rfl : xs = [] := List.eq_nil_of_length_eq_zero h0
    refine wpList_copy_nothing hgd d s dT sT ho elem hu hsz dp sp dLen dCap sLen sCap hd hs (by simpa using hn.symm) ?_
    exact h w ⟨by simpa using hg⟩ ⟨rfl, rfl, rfl, Nat.le_refl _, fun _ _ _ => rfl⟩
  · obtain ⟨rfl, ad, rfl, hsrc⟩ := hpos (by omega)
    have hl : (xs.map (Value.int k)).length = xs.length := by simp
    refine wpList_copy_own hgd d s dT sT ho elem hu hsz g off dLen dCap ad sLen sCap hd hs (ints k r) t hg (xs.map (Value.int k)) (by rw [hl]; exact hn) (fun j v hj => ?_) (by rw [hl, ints_size]; exact hfit) (fun v hv => ?_) ?_
    · have hjl : j < xs.length := by
        have := (List.getElem?_eq_some_iff.1 hj).1
        simpa using this
      rw [List.getElem?_map, List.getElem?_eq_getElem hjl] at hj
      have hv : Value.int k xs[j] = v := by simpa using hj
      rw [hsrc j hjl, ← hv]
      simp [List.getD_eq_getElem?_getD, List.getElem?_eq_getElem hjl]
    · obtain ⟨x, _, rfl⟩ := List.mem_map.1 hv
      rfl
    · rw [hl]
      refine h _ ⟨?_⟩ (grown_row w g _)
      have := setRow_heap w g _ ((ints k r).toList.take off ++ (xs.map (Value.int k) ++ (ints k r).toList.drop (off + xs.length))).toArray t _ hg
      unfold Blk
      rw [this]
      simp [ints, List.map_take, List.map_drop]
end
/-- A block that is known whole, as a slice of the call's own. -/
theorem Blk.R {W : World} {g base : Nat} {k : IntKind} {e : TypeId} {r : List Int} (h : Blk W g k e r) (hb : base ≤ g) (hm : r.length ≤ maxLen) (ok : Nat → Prop) (hok : ok g) : Kd.R (Kd.int k) e W base ok (.slice (some ⟨g, 0, none⟩) r.length r.length) r := by
  refine Kd.R_of_own ?_ (fun j hj => by simp [Value.ownBlock] at hj; subst hj; exact hok)
  refine ⟨by simp [encs], .inr ⟨g, r.length, ints k r, rfl, hb, h, Nat.le_refl _, hm, by rw [ints_size]; simp, ?_⟩⟩
  simp only [ints, encs]
  rw [List.take_of_length_le (by simp)]

theorem made_ints (k : IntKind) (n : Nat) : madeCells #[.int k 0] n = ints k (List.replicate n 0) := by
  apply Array.ext_getElem?
  intro i
  simp [madeCells, ints, Array.getElem?_range]
  by_cases h : i < n
  · simp [h, Array.getElem?_replicate, Nat.mod_one]
  · simp [h, Array.getElem?_replicate]
section
variable {P : Program} {ops : Array Oper} {rest : List Oper} {o : Oper} {a : Act} {Q : Exit → Act → World → Prop}
/-- 'make' of whole numbers. -/
theorem make_event {W : World} (hgd : o.guard = none) {t e : TypeId} {x y : Operand} (ho : o.op = .makeSlice t x y) (n : Nat) (hx : a.eval x = .int .i64 (n : Int)) (hy : a.eval y = .int .i64 (n : Int))
    (ht : P.underlying t = some (.slice e)) (k : IntKind) {bytes : Nat} (hinfo : (P.info? e).map (fun i => (i.zero, i.size, i.bytes)) = some (some (.int k 0), 1, bytes)) (hb0 : 0 < bytes) (hn : n * bytes ≤ 281474976710656)
    (h : wpList P ops Q rest (a.put o.dst (.slice (some ⟨W.heap.size, 0, none⟩) n n)) (W.alloc (.cells (ints k (List.replicate n 0)) e))) : wpList P ops Q (o :: rest) a W := by
  have hr := print_make_int (P := P) t e (.int k 0) bytes ht hinfo rfl hb0 (n : Int) (by omega) (by simpa using hn) W
  rw [made_ints] at hr
  simp only [Int.toNat_natCast] at hr
  refine val_event hgd ?_ h
  simp [execOp, ho, hx, hy, hr]
end

/-- A block whose first cells are a string's bytes. -/
def Byt (W : World) (b : Nat) (s : ByteArray) : Prop := ∃ cs e fr, W.heap[b]? = some (.cells cs e fr) ∧ ∀ j, j < s.size → cs[j]? = some (.int .u8 (bt s (j : Int)))
section
variable {W : World} {b : Nat} {s : ByteArray}
theorem Byt.cell (h : Byt W b s) (j : Nat) (hj : j < s.size) : W.cell? ⟨b, j, none⟩ = some (.int .u8 (bt s (j : Int))) := by
  obtain ⟨cs, e, fr, hb, hc⟩ := h
  exact (cell_of_row W b j cs e fr hb).trans (hc j hj)
theorem Byt.lt (h : Byt W b s) : b < W.heap.size := by
  obtain ⟨cs, e, fr, hb, _⟩ := h
  exact blk_lt hb
theorem Byt.of_heap {W1 : World} (h : Byt W b s) (he : W1.heap[b]? = W.heap[b]?) : Byt W1 b s := by
  obtain ⟨cs, e, fr, hb, hc⟩ := h
  exact ⟨cs, e, fr, he.trans hb, hc⟩
theorem Byt.alloc (h : Byt W b s) (o : Obj) : Byt (W.alloc o) b s := h.of_heap (Below.heap_alloc W o b h.lt)
theorem Byt.drewN (h : Byt W b s) (n : Nat) : Byt (W.drewN n) b s := h
theorem Byt.drew (h : Byt W b s) : Byt W.drew b s := h
theorem Byt.below {W1 : World} (h : Byt W b s) (hb : Below W.heap.size W W1) : Byt W1 b s := h.of_heap (hb.block b h.lt)
theorem Byt.far (h : Byt W b s) {p : Addr} (hp : b ≠ p.block) (u : Value) : Byt (W.setCell p u) b s := h.of_heap (Below.heap_setCell W p u b hp)
theorem Byt.keep {W1 : World} {g : Nat} (h : Byt W b s) (hk : KeepBut W W1 g none) (hne : b ≠ g) : Byt W1 b s := h.of_heap (hk.2 b h.lt hne (by simp))
theorem Byt.grown {W1 : World} {row : Option Nat} (h : Byt W b s) (hg : W.grownBy W1 row) (hne : some b ≠ row) : Byt W1 b s := h.of_heap (hg.block b h.lt hne)
end
theorem bytes_below (W : World) (e : TypeId) (s : ByteArray) : Below W.heap.size W (Go.Lib.bytesWorld W e s) :=
  ⟨rfl, rfl, rfl, by rw [Go.Lib.bytesWorld_size]; omega, fun i hi => Go.Lib.bytesWorld_at_old W e s i hi⟩
theorem bytes_byt (W : World) (e : TypeId) (s : ByteArray) : Byt (Go.Lib.bytesWorld W e s) W.heap.size s := by
  refine ⟨_, _, _, Go.Lib.bytesWorld_at_new W e s, fun j hj => ?_⟩
  have h2 : j < s.data.size := hj
  simp [Go.Lib.bytesCells, Array.getElem?_append, h2, bt, hj]
  rfl
section
variable {P : Program} {ops : Array Oper} {rest : List Oper} {o : Oper} {a : Act} {Q : Exit → Act → World → Prop}
/-- '[]byte(s)': new memory, that nobody writes. -/
theorem conv_event {W : World} (hgd : o.guard = none) {src dst e : TypeId} {x : Operand} (ho : o.op = .convert src dst x) (s : ByteArray) (hx : a.eval x = .string s) {u : TypeDesc}
    (hs : P.underlying src = some u) (hd : P.underlying dst = some (.slice e)) (he : P.underlying e = some (.int .u8))
    (h : ∀ w1 c, s.size ≤ c → Byt w1 W.heap.size s → Below W.heap.size W w1 → wpList P ops Q rest (a.put o.dst (.slice (some ⟨W.heap.size, 0, none⟩) s.size c)) w1) : wpList P ops Q (o :: rest) a W := by
  have hr := Go.Lib.run_convert_string_bytes (P := P) W src dst e s hs hd he
  refine val_event (v := .slice (some ⟨W.heap.size, 0, none⟩) s.size (grownCap W s.size 0 e)) hgd ?_ (h _ _ (grownCap_ge W s.size 0 e) (bytes_byt W e s) (bytes_below W e s))
  simp [execOp, ho, hx, hr]
end
end Go.Proofs.Ytfijcedckpkpfaa.Hw
