/- lzw's map of steps: its block told by the list of its steps. -/
import Derived.Test.YtnmggblhbodfgaaHw
import Derived.Test.YtnmggblhbodfgaaCom
import Derived.Test.YtnmggblhbodfgaaHWrB
import Derived.DeepKeys4
import Derived.WideKeyMaps2
import Derived.DataShut
import Derived.Test.YtnmggblhbodfgaaPureLen
import Derived.Test.YtnmggblhbodfgaaRec
import Derived.Test.YtnmggblhbodfgaaHNewB
import Derived.Test.YtnmggblhbodfgaaRdP
import Derived.Test.YtnmggblhbodfgaaBtRdB
import Derived.Lib.UnsafeStr
import Derived.Lib.Builder
import Derived.Laws.Externs
import Derived.Shelf.RegionOpenPlain
set_option linter.unusedVariables false
set_option linter.unusedSimpArgs false
set_option linter.unusedSectionVars false
namespace Go.Proofs.Ytnmggblhbodfgaa.Hd
open Go Go.RowKit Go.Proofs.YtnmggblhbodfgaaW.PrintWords Go.Proofs.YtnmggblhbodfgaaW.PrintLast Go.Proofs.YtnmggblhbodfgaaW.PrintMore Go.Proofs.Ytnmggblhbodfgaa.Hw Go.Proofs.Ytnmggblhbodfgaa.Com Go.Proofs.Ytnmggblhbodfgaa.P
open Go.WideMaps (KeyLaw)
open Go.ChangeMaps (setBlock)

theorem lz_laid : laidOutB Try.prog = true := by kernel_rfl
theorem lz_row : (42 : TypeId) < Try.prog.types.size := of_decide_eq_true (by kernel_rfl)
theorem lz_wide : (match Try.prog.underlying 42 with | some (.array _ _) | some (.struct _) => true | _ => false) = true := by rw [Try.underlying42]
theorem lz_law : KeyLaw Try.prog 42 := deep_law_laid lz_laid (m := 2) (by omega) lz_row (by kernel_rfl) lz_wide
theorem lz_key : Try.prog.keyType 42 = true := by kernel_rfl
theorem lz_cells : Try.prog.cellsOf 42 = 2 := by kernel_rfl
theorem lz_cells3 : Try.prog.cellsOf 3 = 1 := by kernel_rfl
theorem lz_cells5 : Try.prog.cellsOf 5 = 1 := by kernel_rfl
theorem lz_more : ∃ n, Try.prog.types.size = n + 1 := ⟨Try.prog.types.size - 1, by have h : 0 < Try.prog.types.size := of_decide_eq_true (by kernel_rfl); omega⟩
/-- A step as a key. -/
def skey (x : Nat × Nat) : Value := .agg #[.int .i64 ((x.1 : Nat) : Int), .int .u8 ((x.2 : Nat) : Int)]
def Sok (x : Nat × Nat) : Prop := x.1 < 4611686018427387904 ∧ x.2 < 256
theorem skey_inj {x y : Nat × Nat} (h : skey x = skey y) : x = y := by
  simp only [skey, Value.agg.injEq, Array.mk.injEq, List.cons.injEq, Value.int.injEq, true_and, and_true] at h
  exact Prod.ext (Int.ofNat.inj h.1) (Int.ofNat.inj h.2)
theorem skey_is {x : Nat × Nat} (h : Sok x) : ∃ l, keyOf Try.prog 42 (skey x) = some l := by
  obtain ⟨n, hn⟩ := lz_more
  have hf : (skey x).formed Try.prog 42 = true := by simp [skey, Value.formed, Try.underlying42, lz_cells]
  have w1 : (Lit.int .i64 ((x.1 : Nat) : Int)).wf = true := by
    have h1 := h.1
    refine (Lit.wf_int_iff .i64 _).2 ⟨?_, ?_⟩
    · have : IntKind.i64.min = -9223372036854775808 := rfl
      omega
    · have : IntKind.i64.max = 9223372036854775807 := rfl
      omega
  have w2 : (Lit.int .u8 ((x.2 : Nat) : Int)).wf = true := by
    have h1 := h.2
    refine (Lit.wf_int_iff .u8 _).2 ⟨?_, ?_⟩
    · have : IntKind.u8.min = 0 := rfl
      omega
    · have : IntKind.u8.max = 255 := rfl
      omega
  unfold keyOf
  rw [Try.underlying42]
  simp only [lz_key, hf, Bool.and_self, if_true, hn, Program.keyLits, Try.underlying42]
  simp [skey, Value.cells, lz_cells, lz_cells3, lz_cells5, Program.keyLits, Try.underlying3, Try.underlying5, w1, w2]
/-- The map's block holds these steps, numbered from 256 on. -/
def Mp (W : World) (g : Nat) (D : List (Nat × Nat)) : Prop :=
  ∃ (es : Array MapEntry) (clock : Nat), W.heap[g]? = some (.map es clock) ∧ es.toList.map (·.key) = D.map skey ∧ (∀ (i : Nat) (e : MapEntry), es.toList[i]? = some e → e.val = .int .i64 ((256 + i : Nat) : Int)) ∧ ∀ x ∈ D, Sok x
theorem Mp.keys {es : Array MapEntry} {D : List (Nat × Nat)} (hk : es.toList.map (·.key) = D.map skey) (hd : ∀ x ∈ D, Sok x) : ∀ e ∈ es.toList, ∃ l, keyOf Try.prog 42 e.key = some l := by
  intro e he
  have : e.key ∈ D.map skey := hk ▸ List.mem_map.2 ⟨e, he, rfl⟩
  obtain ⟨x, hx, hx2⟩ := List.mem_map.1 this
  rw [← hx2]
  exact skey_is (hd x hx)
theorem mp_find {es : Array MapEntry} {D : List (Nat × Nat)} (hk : es.toList.map (·.key) = D.map skey) {j : Nat} {e : MapEntry} (he : es.toList[j]? = some e) {x : Nat × Nat} (hx : e.key = skey x) : D[j]? = some x := by
  have h : (es.toList.map (·.key))[j]? = some (skey x) := by rw [List.getElem?_map, he, Option.map_some, hx]
  rw [hk, List.getElem?_map] at h
  obtain ⟨y, hy, hy2⟩ := Option.map_eq_some_iff.1 h
  rw [hy, skey_inj hy2]
theorem mp_none {es : Array MapEntry} {D : List (Nat × Nat)} (hk : es.toList.map (·.key) = D.map skey) {x : Nat × Nat} (h : ∀ e ∈ es.toList, e.key ≠ skey x) : x ∉ D := by
  intro hx
  have : skey x ∈ es.toList.map (·.key) := hk ▸ List.mem_map.2 ⟨x, hx, rfl⟩
  obtain ⟨e, he, he2⟩ := List.mem_map.1 this
  exact h e he he2
/-- What a look finds. -/
def lookV (D : List (Nat × Nat)) (x : Nat × Nat) : Nat := if x ∈ D then 256 + D.idxOf x else 0
theorem zero_int (W : World) : (zeroValue 3).run Try.prog W = .ok (.int .i64 0) W := by kernel_rfl
theorem run_look {W : World} {g : Nat} {D : List (Nat × Nat)} (hm : Mp W g D) (hd : D.Nodup) {x : Nat × Nat} (hx : Sok x) :
    (Instr.lookup 34 (.map (some g)) (skey x) true).run Try.prog W = .ok (.tuple #[.int .i64 ((lookV D x : Nat) : Int), .bool (decide (x ∈ D))]) W := by
  obtain ⟨es, clock, hb, hk, hv, hs⟩ := hm
  obtain ⟨l, hl⟩ := skey_is hx
  rcases lz_law.find W hl es.toList (Mp.keys hk hs) with ⟨h1, h2⟩ | ⟨j, e, h1, h2, h3⟩
  · have hn := mp_none hk h2
    have e1 : lookV D x = 0 := if_neg hn
    rw [e1, decide_eq_false hn]
    simp [Instr.lookup, run_underlying Try.underlying34, MapKept.run_getObj_map hb, lz_law.check W _ hl, h1, zero_int, Result.andThen]
  · have hj := mp_find hk h2 h3
    have hm : x ∈ D := List.mem_of_getElem? hj
    obtain ⟨hjl, hje⟩ := List.getElem?_eq_some_iff.1 hj
    have e1 : lookV D x = 256 + j := by
      unfold lookV
      rw [if_pos hm]
      congr 1
      subst hje
      exact List.Nodup.idxOf_getElem hd j hjl
    rw [e1, decide_eq_true hm]
    have hval := hv j e h2
    simp [Instr.lookup, run_underlying Try.underlying34, MapKept.run_getObj_map hb, lz_law.check W _ hl, h1, hval, Result.andThen]
theorem run_update {W : World} {g : Nat} {D : List (Nat × Nat)} (hm : Mp W g D) {x : Nat × Nat} (hx : Sok x) (hn : x ∉ D) :
    ∃ o : Obj, (Instr.mapUpdate 34 (.map (some g)) (skey x) (.int .i64 ((256 + D.length : Nat) : Int))).run Try.prog W = .ok () (setBlock W g o) ∧ Mp (setBlock W g o) g (D ++ [x]) := by
  obtain ⟨es, clock, hb, hk, hv, hs⟩ := hm
  obtain ⟨l, hl⟩ := skey_is hx
  have hlen : es.toList.length = D.length := by have := congrArg List.length hk; simpa using this
  rcases lz_law.find W hl es.toList (Mp.keys hk hs) with ⟨h1, h2⟩ | ⟨j, e, h1, h2, h3⟩
  · refine ⟨.map (es.push ⟨skey x, .int .i64 ((256 + D.length : Nat) : Int), clock⟩) (clock + 1), ?_, es.push ⟨skey x, .int .i64 ((256 + D.length : Nat) : Int), clock⟩, clock + 1, ?_, ?_, ?_, ?_⟩
    · simp [Instr.mapUpdate, run_underlying Try.underlying34, MapKept.run_getObj_map hb, lz_law.check W false hl, h1, MapKept.run_setObj_map _ hb, Result.andThen, setBlock]
    · exact (MapKept.heap_set hb).1
    · simp [hk]
    · intro i e he
      rw [Array.toList_push] at he
      rcases Nat.lt_or_ge i es.toList.length with h | h
      · rw [List.getElem?_append_left h] at he
        exact hv i e he
      · rw [List.getElem?_append_right h] at he
        have hi : i - es.toList.length = 0 := by
          rcases Nat.eq_zero_or_pos (i - es.toList.length) with h0 | h0
          · exact h0
          · rw [List.getElem?_eq_none (by rw [List.length_singleton]; exact h0)] at he; cases he
        rw [hi] at he
        have : e = ⟨skey x, .int .i64 ((256 + D.length : Nat) : Int), clock⟩ := by simpa using he.symm
        rw [this]
        have : i = D.length := by omega
        rw [this]
    · intro y hy
      rcases List.mem_append.1 hy with hy | hy
      · exact hs y hy
      · rw [List.mem_singleton.1 hy]; exact hx
  · exact absurd (List.mem_of_getElem? (mp_find hk h2 h3)) hn
theorem setBlock_block {W : World} {g : Nat} {o : Obj} {i : Nat} (h : i ≠ g) : (setBlock W g o).heap[i]? = W.heap[i]? := by
  show (W.heap.setIfInBounds g o)[i]? = _
  simp [Ne.symm h]
theorem setBlock_size {W : World} {g : Nat} {o : Obj} : (setBlock W g o).heap.size = W.heap.size := by simp [setBlock]
theorem setBlock_grown {W : World} {g : Nat} {o : Obj} : W.grownBy (setBlock W g o) (some g) := ⟨rfl, rfl, rfl, Nat.le_of_eq setBlock_size.symm, fun i _ h => setBlock_block (fun e => h (by rw [e]))⟩
theorem Mp.kept {W W1 : World} {g : Nat} {D : List (Nat × Nat)} (hm : Mp W g D) (h : W1.heap[g]? = W.heap[g]?) : Mp W1 g D := by
  obtain ⟨es, clock, hb, r⟩ := hm
  exact ⟨es, clock, h.trans hb, r⟩
theorem Mp.lt {W : World} {g : Nat} {D : List (Nat × Nat)} (hm : Mp W g D) : g < W.heap.size := by
  obtain ⟨es, clock, hb, _⟩ := hm
  exact (Array.getElem?_eq_some_iff.1 hb).1
theorem mp_new (W : World) : Mp (W.alloc (.map #[] 0)) W.heap.size [] := ⟨#[], 0, (MapKept.heap_alloc W _).1, rfl, by simp, by simp⟩
theorem run_make (W : World) : (Instr.makeMap 34 none).run Try.prog W = .ok (.map (some W.heap.size)) (W.alloc (.map #[] 0)) := by
  simp [Instr.makeMap, Result.andThen]
theorem mp_ne {W : World} {g b : Nat} {D : List (Nat × Nat)} (hm : Mp W g D) {cs : Array Value} {t : TypeId} {f : Nat × Nat} (hb : W.heap[b]? = some (.cells cs t f)) : b ≠ g := by
  rintro rfl
  obtain ⟨es, clock, h, _⟩ := hm
  rw [h] at hb
  cases hb
end Go.Proofs.Ytnmggblhbodfgaa.Hd
/- lzw's writer and Encode, walked by hand. -/
namespace Go.Proofs.Ytnmggblhbodfgaa.Hd
open Go Go.RowKit Go.Proofs.YtnmggblhbodfgaaW.PrintWords Go.Proofs.YtnmggblhbodfgaaW.PrintLast Go.Proofs.YtnmggblhbodfgaaW.PrintMore Go.Proofs.Ytnmggblhbodfgaa.Hw Go.Proofs.Ytnmggblhbodfgaa.Com Go.Proofs.Ytnmggblhbodfgaa.P
open Go.ChangeMaps (setBlock)
attribute [local go_sem] max2_int min2_int max_two min_two max_three min_three max_four min_four

theorem load_run {P : Program} {o : Oper} {a : Act} {W : World} {ty : TypeId} {x : Operand} {b o' : Nat} {cs : List Value} {d : TypeDesc} (ho : o.op = .load ty x) (hx : a.eval x = .pointer (some ⟨b, o', none⟩)) (hc : W.rangeAt b o' cs)
    (hu : P.underlying ty = some d) (hd : d.isRow = true) (hi : (P.info? ty).map (·.size) = some cs.length) : (execOp a.eval o).run P W = .ok (.value (.agg cs.toArray)) W := by
  have := run_loadAt_mid (P := P) W b o' ty cs d hc hu hd hi
  simp [execOp, ho, hx, this]
theorem upd_run {P : Program} {o : Oper} {a : Act} {W W1 : World} {ty : TypeId} {m k v : Operand} {mv kv vv : Value} (ho : o.op = .mapUpdate ty m k v) (hm : a.eval m = mv) (hk : a.eval k = kv) (hv : a.eval v = vv) (h : (Instr.mapUpdate ty mv kv vv).run P W = .ok () W1) : (execOp a.eval o).run P W = .ok .skip W1 := by
  simp [execOp, ho, hm, hk, hv, h]
theorem look_run {P : Program} {o : Oper} {a : Act} {W : World} {ty : TypeId} {m k : Operand} {mv kv r : Value} (ho : o.op = .lookup ty m k true) (hm : a.eval m = mv) (hk : a.eval k = kv) (h : (Instr.lookup ty mv kv true).run P W = .ok r W) : (execOp a.eval o).run P W = .ok (.value r) W := by
  simp [execOp, ho, hm, hk, h]
theorem make_run {P : Program} {o : Oper} {a : Act} {W W1 : World} {ty : TypeId} {r : Value} (ho : o.op = .makeMap ty none) (h : (Instr.makeMap ty none).run P W = .ok r W1) : (execOp a.eval o).run P W = .ok (.value r) W1 := by
  simp [execOp, ho, h]
theorem sizeStep : (Try.prog.info? 42).map (·.size) = some 2 := by kernel_rfl
theorem range2 {W : World} {b : Nat} {x y : Value} {t : TypeId} (h : W.heap[b]? = some (.cells #[x, y] t (0, 0))) : W.rangeAt b 0 [x, y] := by
  intro j y hy
  match j, hy with
  | 0, hy => simp at hy; subst hy; exact (blk_cell h 0).trans rfl
  | 1, hy => simp at hy; subst hy; exact (blk_cell h 1).trans rfl
theorem ev_get {α : Type} {f : Nat → Option α} {r : α} (h : Ev f r) : ∃ k, f k = some r := by
  obtain ⟨n, hn⟩ := h
  exact ⟨n, hn n (Nat.le_refl _)⟩
theorem width_at (n : Nat) (h1 : 2 ≤ n) (h2 : n ≤ 4294967296) (w : World) : Calls Try.prog 32 #[.int .i64 (n : Int)] w fun e w' => e = .returned (.int .i64 ((wd n : Nat) : Int)) ∧ Below w.heap.size w w' := by
  obtain ⟨k, hk⟩ := ev_get (width_ev n h1 h2)
  exact lzw_width.calls k _ _ w hk
theorem Put_w (g : Nat) (v : Value) (l : List Bool) (a k base : Nat) (w : World) (hI : Wb w base g v l) (hb : base ≤ g) (ha : a < 4611686018427387904) (hl : l.length ≤ 1099511627776) :
    Calls Try.prog 31 #[.pointer (some ⟨g, 0, none⟩), .int .u64 (IntKind.u64.wrap (a : Int)), .int .i64 (k : Int)] w fun e w' => ∃ v' : Value, e = .returned (.int .i64 (rput l a k).2) ∧ Wb w' base g v' (rput l a k).1 ∧ Fr w w' g v ∧ Nw w v v' := by
  rw [wu64 (x := (a : Int)) (by omega) (by omega)]
  exact Put_b g v l a k base w hI hb (by omega) (by omega) hl
theorem Fr.after {w w1 w2 : World} {g : Nat} {v : Value} (hB : Below w.heap.size w w1) (h : Fr w1 w2 g v) : Fr w w2 g v :=
  ⟨h.1.trans hB.os, h.2.1.trans hB.tape, h.2.2.1.trans hB.output, Nat.le_trans hB.size h.2.2.2.1, fun i hi h1 h2 => (h.2.2.2.2 i (Nat.lt_of_lt_of_le hi hB.size) h1 h2).trans (hB.block i hi)⟩
theorem Nw.after {w w1 : World} {v v' : Value} (hB : Below w.heap.size w w1) (h : Nw w1 v v') : Nw w v v' := by
  rcases h with h | ⟨b, h1, h2⟩
  · exact .inl h
  · exact .inr ⟨b, h1, Nat.le_trans hB.size h2⟩
set_option maxHeartbeats 4000000 in
set_option maxRecDepth 100000 in
theorem put_ok (gx gm gw : Nat) (v : Value) (room n a base : Nat) (out : List Bool) (w : World) (hx : w.heap[gx]? = some (.cells #[.map (some gm), .int .i64 (n : Int), .int .i64 (room : Int), .pointer (some ⟨gw, 0, none⟩)] 38 (0, 0)))
    (hI : Wb w base gw v out) (hb : base ≤ gw) (hn1 : 2 ≤ n) (hn2 : n ≤ 4294967296) (ha : a < 4611686018427387904) (hl : out.length ≤ 1099511627776) :
    Calls Try.prog 12 #[.pointer (some ⟨gx, 0, none⟩), .int .i64 (a : Int)] w fun e w' => ∃ v' : Value, e = .returned (.tuple #[]) ∧ Wb w' base gw v' (rput out a (wd n)).1 ∧ Fr w w' gw v ∧ Nw w v v' := by
  have X0 := Aside0.mk hx
  have W0 := Aside0.mk hI
  have HN := Aside0.mk (And.intro hn1 (And.intro hn2 (And.intro hb (And.intro ha hl))))
  clear hx hI hb hn1 hn2 ha hl
  go_enter Try.func12, Try.ntmps12
  go_wp2
  refine start_ (n := 12) (S := fun w' => w'.cell? ⟨gx, 3, none⟩ = some (.pointer (some ⟨gw, 0, none⟩)) ∧ w'.cell? ⟨gx, 1, none⟩ = some (.int .i64 (n : Int))) (ds := [11]) #[false, false, false, false, false, false, false, false, false, false, false, false] (by kernel_rfl) rfl rfl ⟨((blk_cell X0.out 3).trans rfl), ((blk_cell X0.out 1).trans rfl)⟩ (fun hHeld => ?_)
  refine pure_ (i := 0) (N := some 4) (v := ?_) (a' := ?_) #[true, false, false, false, false, false, false, false, false, false, false, false] rfl rfl (by kernel_rfl) (fun _ _ _ h => h) (Or.inl ⟨by rfl, ?_⟩) ?_ ?_
  rotate_left
  · intro w'
    go_simp
    with_reducible rfl
  rotate_left
  · simp only [Act.put, List.setIfInBounds_toArray, List.set_cons_zero, List.set_cons_succ, i64_w, i32_w]
    rfl
  refine pure_ (i := 1) (N := some 5) (v := ?_) (a' := ?_) #[true, true, false, false, false, false, false, false, false, false, false, false] rfl rfl (by kernel_rfl) (fun _ _ _ h => h) (Or.inl ⟨by rfl, ?_⟩) ?_ ?_
  rotate_left
  · intro w'
    go_simp
    with_reducible rfl
  rotate_left
  · simp only [Act.put, List.setIfInBounds_toArray, List.set_cons_zero, List.set_cons_succ, i64_w, i32_w]
    rfl
  refine pure_ (i := 2) (N := some 6) (v := ?_) (a' := ?_) #[true, true, true, false, false, false, false, false, false, false, false, false] rfl rfl (by kernel_rfl) (fun _ _ _ h => h) (Or.inl ⟨by rfl, ?_⟩) ?_ ?_
  rotate_left
  · intro w'
    go_simp
    with_reducible rfl
  rotate_left
  · simp only [Act.put, List.setIfInBounds_toArray, List.set_cons_zero, List.set_cons_succ, i64_w, i32_w]
    rfl
  refine pure_ (i := 4) (N := some 8) (v := ?_) (a' := ?_) #[true, true, true, false, true, false, false, false, false, false, false, false] rfl rfl (by kernel_rfl) (fun _ _ _ h => h) (Or.inl ⟨by rfl, ?_⟩) ?_ ?_
  rotate_left
  · intro w'
    go_simp
    with_reducible rfl
  rotate_left
  · simp only [Act.put, List.setIfInBounds_toArray, List.set_cons_zero, List.set_cons_succ, i64_w, i32_w]
    rfl
  refine pure_ (i := 5) (N := some 9) (v := ?_) (a' := ?_) #[true, true, true, false, true, true, false, false, false, false, false, false] rfl rfl (by kernel_rfl) (fun _ _ _ h => h) (Or.inl ⟨by rfl, ?_⟩) ?_ ?_
  rotate_left
  · intro w'
    go_simp
    with_reducible rfl
  rotate_left
  · simp only [Act.put, List.setIfInBounds_toArray, List.set_cons_zero, List.set_cons_succ, i64_w, i32_w]
    rfl
  refine pure_ (i := 6) (N := some 10) (v := ?_) (a' := ?_) #[true, true, true, false, true, true, true, false, false, false, false, false] rfl rfl (by kernel_rfl) (fun _ _ _ h => h) (Or.inl ⟨by rfl, ?_⟩) ?_ ?_
  rotate_left
  · intro w'
    go_simp
    with_reducible rfl
  rotate_left
  · simp only [Act.put, List.setIfInBounds_toArray, List.set_cons_zero, List.set_cons_succ, i64_w, i32_w]
    rfl
  refine pure_ (i := 7) (N := some 11) (v := ?_) (a' := ?_) #[true, true, true, false, true, true, true, true, false, false, false, false] rfl rfl (by kernel_rfl) (fun _ _ _ h => h) (Or.inl ⟨by rfl, ?_⟩) ?_ ?_
  rotate_left
  · intro w'
    go_simp
    with_reducible rfl
  rotate_left
  · simp only [Act.put, List.setIfInBounds_toArray, List.set_cons_zero, List.set_cons_succ, i64_w, i32_w]
    rfl
  refine pure_ (i := 8) (N := some 12) (v := ?_) (a' := ?_) #[true, true, true, false, true, true, true, true, true, false, false, false] rfl rfl (by kernel_rfl) (fun _ _ _ h => h) (Or.inl ⟨by rfl, ?_⟩) ?_ ?_
  rotate_left
  · intro w'
    go_simp
    with_reducible rfl
  rotate_left
  · simp only [Act.put, List.setIfInBounds_toArray, List.set_cons_zero, List.set_cons_succ, i64_w, i32_w]
    rfl
  refine take_ (i := 3) (N := some 7) (v := ?_) (a' := ?_) #[true, true, true, true, true, true, true, true, true, false, false, false] rfl rfl (by kernel_rfl) (fun _ _ _ h => h) (Or.inl ⟨by rfl, ?_⟩) hHeld ?_ ?_
  rotate_left
  · rintro w' ⟨s0, s1⟩
    go_simp
    with_reducible rfl
  rotate_left
  · simp only [Act.put, List.setIfInBounds_toArray, List.set_cons_zero, List.set_cons_succ, i64_w, i32_w]
    rfl
  refine take_ (i := 9) (N := some 13) (v := ?_) (a' := ?_) #[true, true, true, true, true, true, true, true, true, true, false, false] rfl rfl (by kernel_rfl) (fun _ _ _ h => h) (Or.inl ⟨by rfl, ?_⟩) hHeld ?_ ?_
  rotate_left
  · rintro w' ⟨s0, s1⟩
    go_simp
    with_reducible rfl
  rotate_left
  · simp only [Act.put, List.setIfInBounds_toArray, List.set_cons_zero, List.set_cons_succ, i64_w, i32_w]
    rfl
  refine one_ (i := 10) (N := some 14) #[true, true, true, true, true, true, true, true, true, true, true, false] rfl rfl (by kernel_rfl) (by decide) (fun K hK => ?_)
  refine goes_ Try.func32 (by kernel_rfl) rfl #[.int .i64 (n : Int)] (by rfl) rfl rfl (by simp only [List.map_toArray, List.map_cons, List.map_nil]; rfl) ?_
  with_reducible refine (width_at n HN.out.1 HN.out.2.1 w.drew).mono ?_
  rintro e w2 ⟨rfl, hb⟩
  refine ⟨_, rfl, ?_⟩
  have X2 := Aside0.mk (blk_below (show w.drew.heap[gx]? = _ from X0.out) hb)
  have W2 := Aside0.mk (Wb.below (show Wb w.drew base gw v out from W0.out) hb)
  have B2 := Aside0.mk (below_step (below_drew (Below.refl w.heap.size w)) hb)
  clear hb
  refine hK.out _ _ ⟨((blk_cell X2.out 3).trans rfl), ((blk_cell X2.out 1).trans rfl)⟩ (fun hHeld => ?_)
  clear hK K
  refine norm_ (a' := ?_) ?_ ?_
  rotate_left
  · show Act.put _ (some 14) _ = _
    simp only [Act.put, List.setIfInBounds_toArray, List.set_cons_zero, List.set_cons_succ, i64_w, i32_w]
    rfl
  refine last_ (i := 11) (N := some 15) #[true, true, true, true, true, true, true, true, true, true, true, true] rfl rfl (by kernel_rfl) (by decide) (fun K hK => ?_)
  refine goes_ Try.func31 (by kernel_rfl) rfl #[.pointer (some ⟨gw, 0, none⟩), .int .u64 (IntKind.u64.wrap (a : Int)), .int .i64 ((wd n : Nat) : Int)] (by rfl) rfl rfl (by simp only [List.map_toArray, List.map_cons, List.map_nil]; rfl) ?_
  with_reducible refine (Put_w gw v out a (wd n) base w2 W2.out HN.out.2.2.1 HN.out.2.2.2.1 HN.out.2.2.2.2).mono ?_
  rintro e w3 ⟨v3, rfl, hW3, hF3, hN3⟩
  refine ⟨_, rfl, ?_⟩
  have W3 := Aside0.mk hW3
  have F3 := Aside0.mk (And.intro hF3 hN3)
  clear hW3 hF3 hN3
  refine hK.out _ _ ?_
  clear hK K
  refine norm_ (a' := ?_) ?_ ?_
  rotate_left
  · show Act.put _ (some 15) _ = _
    simp only [Act.put, List.setIfInBounds_toArray, List.set_cons_zero, List.set_cons_succ, i64_w, i32_w]
    rfl
  refine done_ (by kernel_rfl) ?_
  go_wp2
  first | go_end0 | ((try simp only [Exit.inBlock, Exit.then]); refine bodyPost_ret (results_none rfl _ _ _) rfl ?_)
  exact ⟨v3, rfl, W3.out, Fr.after B2.out F3.out.1, Nw.after B2.out F3.out.2⟩
/-- The steps behind one that is new. -/
def grD (room : Nat) (D : List (Nat × Nat)) (x : Nat × Nat) : List (Nat × Nat) := if 256 + D.length < room then D ++ [x] else D
theorem grD_len (room : Nat) (D : List (Nat × Nat)) (x : Nat × Nat) : (grD room D x).length ≤ D.length + 1 := by
  unfold grD
  split
  · simp
  · omega
set_option maxHeartbeats 4000000 in
set_option maxRecDepth 100000 in
theorem grow_ok (gx gm gw room r c : Nat) (D : List (Nat × Nat)) (w : World) (hx : w.heap[gx]? = some (.cells #[.map (some gm), .int .i64 ((256 + D.length : Nat) : Int), .int .i64 (room : Int), .pointer (some ⟨gw, 0, none⟩)] 38 (0, 0)))
    (hm : Mp w gm D) (hs : Sok (r, c)) (hn : (r, c) ∉ D) (hl : D.length ≤ 1099511627776) :
    Calls Try.prog 13 #[.pointer (some ⟨gx, 0, none⟩), .agg #[.int .i64 (r : Int), .int .u8 (c : Int)]] w fun e w' => e = .returned (.tuple #[]) ∧
      w'.heap[gx]? = some (.cells #[.map (some gm), .int .i64 ((256 + (grD room D (r, c)).length : Nat) : Int), .int .i64 (room : Int), .pointer (some ⟨gw, 0, none⟩)] 38 (0, 0)) ∧ Mp w' gm (grD room D (r, c)) ∧ Kp (fun i => i = gx ∨ i = gm) w w' := by
  have X0 := Aside0.mk hx
  have M0 := Aside0.mk hm
  have HS := Aside0.mk (And.intro hs (And.intro hn hl))
  by_cases hr : 256 + D.length < room
  · have t1 : decide (((256 + D.length : Nat) : Int) < (room : Int)) = true := decide_eq_true (Int.ofNat_lt.2 hr)
    have HG := Aside0.mk (show grD room D (r, c) = D ++ [(r, c)] from if_pos hr)
    have hc1 := (blk_cell hx 1).trans (rfl : _ = some (Value.int .i64 ((256 + D.length : Nat) : Int)))
    have hc2 := (blk_cell hx 2).trans (rfl : _ = some (Value.int .i64 (room : Int)))
    generalize hK : ((256 + D.length : Nat) : Int) = K at t1 hc1
    have HK := Aside0.mk hK
    clear hx hm hs hn hl hr hK
    go_enter Try.func13, Try.ntmps13
    go_wp2_with ((with_reducible refine gate_dst (N := 3) rfl ?_); refine box_event ?hg (N := 3) ?hd (cs := #[.int .i64 (r : Int), .int .u8 (c : Int)]) (t := 42) ?hr ?_; (case hd => rfl); (case hg => rfl); (case hr => first | (go_simp; done) | (go_simp; rfl)); intro b1 hb1 w1 hx1 hB1; have C1 := Aside0.mk hx1; have B1 := Aside0.mk hB1; have X1 := Aside0.mk (blk_below X0.out hB1); have M1 := Aside0.mk (M0.out.kept (hB1.block _ M0.out.lt)); replace hc1 := (blk_cell X1.out 1).trans (by rw [← HK.out]; rfl : _ = some (Value.int .i64 K)); replace hc2 := (blk_cell X1.out 2).trans (rfl : _ = some (Value.int .i64 (room : Int))); clear hx1 hB1 hb1)
    go_quiet (fail)
    obtain ⟨w2, hw2⟩ : ∃ w2, w1.drewN nq = w2 := ⟨_, rfl⟩
    have X2 := Aside0.mk (show (w1.drewN nq).heap[gx]? = _ from X1.out)
    have C2 := Aside0.mk (show (w1.drewN nq).heap[b1]? = _ from C1.out)
    have M2 := Aside0.mk (M1.out.kept (show (w1.drewN nq).heap[gm]? = _ from rfl))
    have B2 := Aside0.mk (show Below w.heap.size w (w1.drewN nq) from pw_below_drewN B1.out nq)
    rw [hw2] at X2 C2 M2 B2
    rw [hw2]
    obtain ⟨o, ho1, ho2⟩ := run_update (W := w2.drew) (M2.out.kept rfl) HS.out.1 HS.out.2.1
    have HU := Aside0.mk (And.intro ho1 ho2)
    clear hw2 X1 C1 M1 B1 hc1 hc2 ho1 ho2
    go_wp2
    refine start_ (n := 10) (S := fun w' => w'.cell? ⟨gx, 0, none⟩ = some (.map (some gm)) ∧ w'.cell? ⟨gx, 1, none⟩ = some (.int .i64 ((256 + D.length : Nat) : Int)) ∧ w'.rangeAt b1 0 [.int .i64 (r : Int), .int .u8 (c : Int)]) (ds := [9]) #[false, false, false, false, false, false, false, false, false, false] (by kernel_rfl) rfl rfl ⟨((blk_cell X2.out 0).trans rfl), ((blk_cell X2.out 1).trans rfl), (range2 C2.out)⟩ (fun hHeld => ?_)
    refine pure_ (i := 0) (N := some 13) (v := ?_) (a' := ?_) #[true, false, false, false, false, false, false, false, false, false] rfl rfl (by kernel_rfl) (fun _ _ _ h => h) (Or.inl ⟨by rfl, ?_⟩) ?_ ?_
    rotate_left
    · intro w'
      go_simp
      with_reducible rfl
    rotate_left
    · simp only [Act.put, List.setIfInBounds_toArray, List.set_cons_zero, List.set_cons_succ, i64_w, i32_w]
      rfl
    refine pure_ (i := 1) (N := some 14) (v := ?_) (a' := ?_) #[true, true, false, false, false, false, false, false, false, false] rfl rfl (by kernel_rfl) (fun _ _ _ h => h) (Or.inl ⟨by rfl, ?_⟩) ?_ ?_
    rotate_left
    · intro w'
      go_simp
      with_reducible rfl
    rotate_left
    · simp only [Act.put, List.setIfInBounds_toArray, List.set_cons_zero, List.set_cons_succ, i64_w, i32_w]
      rfl
    refine pure_ (i := 2) (N := some 15) (v := ?_) (a' := ?_) #[true, true, true, false, false, false, false, false, false, false] rfl rfl (by kernel_rfl) (fun _ _ _ h => h) (Or.inl ⟨by rfl, ?_⟩) ?_ ?_
    rotate_left
    · intro w'
      go_simp
      with_reducible rfl
    rotate_left
    · simp only [Act.put, List.setIfInBounds_toArray, List.set_cons_zero, List.set_cons_succ, i64_w, i32_w]
      rfl
    refine pure_ (i := 5) (N := some 18) (v := ?_) (a' := ?_) #[true, true, true, false, false, true, false, false, false, false] rfl rfl (by kernel_rfl) (fun _ _ _ h => h) (Or.inl ⟨by rfl, ?_⟩) ?_ ?_
    rotate_left
    · intro w'
      go_simp
      with_reducible rfl
    rotate_left
    · simp only [Act.put, List.setIfInBounds_toArray, List.set_cons_zero, List.set_cons_succ, i64_w, i32_w]
      rfl
    refine pure_ (i := 6) (N := some 19) (v := ?_) (a' := ?_) #[true, true, true, false, false, true, true, false, false, false] rfl rfl (by kernel_rfl) (fun _ _ _ h => h) (Or.inl ⟨by rfl, ?_⟩) ?_ ?_
    rotate_left
    · intro w'
      go_simp
      with_reducible rfl
    rotate_left
    · simp only [Act.put, List.setIfInBounds_toArray, List.set_cons_zero, List.set_cons_succ, i64_w, i32_w]
      rfl
    refine pure_ (i := 7) (N := some 20) (v := ?_) (a' := ?_) #[true, true, true, false, false, true, true, true, false, false] rfl rfl (by kernel_rfl) (fun _ _ _ h => h) (Or.inl ⟨by rfl, ?_⟩) ?_ ?_
    rotate_left
    · intro w'
      go_simp
      with_reducible rfl
    rotate_left
    · simp only [Act.put, List.setIfInBounds_toArray, List.set_cons_zero, List.set_cons_succ, i64_w, i32_w]
      rfl
    refine take_ (i := 3) (N := some 16) (v := ?_) (a' := ?_) #[true, true, true, true, false, true, true, true, false, false] rfl rfl (by kernel_rfl) (fun _ _ _ h => h) (Or.inl ⟨by rfl, ?_⟩) hHeld ?_ ?_
    rotate_left
    · rintro w' ⟨s0, s1, s2⟩
      go_simp
      with_reducible rfl
    rotate_left
    · simp only [Act.put, List.setIfInBounds_toArray, List.set_cons_zero, List.set_cons_succ, i64_w, i32_w]
      rfl
    refine take_ (i := 4) (N := some 17) (v := ?_) (a' := ?_) #[true, true, true, true, true, true, true, true, false, false] rfl rfl (by kernel_rfl) (fun _ _ _ h => h) (Or.inl ⟨by rfl, ?_⟩) hHeld ?_ ?_
    rotate_left
    · rintro w' ⟨s0, s1, s2⟩
      refine (load_run rfl (show _ = Value.pointer (some ⟨b1, 0, none⟩) from by first | rfl | (simp [go_sem]; done)) s2 Try.underlying42 rfl sizeStep).trans ?_
      with_reducible rfl
    rotate_left
    · simp only [Act.put, List.setIfInBounds_toArray, List.set_cons_zero, List.set_cons_succ, i64_w, i32_w]
      rfl
    refine take_ (i := 8) (N := some 21) (v := ?_) (a' := ?_) #[true, true, true, true, true, true, true, true, true, false] rfl rfl (by kernel_rfl) (fun _ _ _ h => h) (Or.inl ⟨by rfl, ?_⟩) hHeld ?_ ?_
    rotate_left
    · rintro w' ⟨s0, s1, s2⟩
      go_simp
      with_reducible rfl
    rotate_left
    · simp only [Act.put, List.setIfInBounds_toArray, List.set_cons_zero, List.set_cons_succ, i64_w, i32_w]
      rfl
    refine last_ (i := 9) (N := none) #[true, true, true, true, true, true, true, true, true, true] rfl rfl (by kernel_rfl) (by decide) (fun K hK => ?_)
    refine skip_ (w1 := ChangeMaps.setBlock w2.drew gm o) (by rfl) rfl (upd_run (m := .tmp 16) (k := .tmp 17) (v := .tmp 21) (mv := .map (some gm)) (kv := skey (r, c)) (vv := .int .i64 ((256 + D.length : Nat) : Int)) rfl rfl rfl rfl HU.out.1) ?_
    refine hK.out _ _ ?_
    clear hK K
    refine done_ (by kernel_rfl) ?_
    clear hHeld
    have X3 := Aside0.mk (show (setBlock w2.drew gm o).heap[gx]? = _ from (setBlock_block (mp_ne (M2.out.kept (W1 := w2.drew) rfl) (show w2.drew.heap[gx]? = _ from X2.out))).trans X2.out)
    have M3 := Aside0.mk HU.out.2
    have K3 := Aside0.mk (show Kp (fun i => i = gx ∨ i = gm) w (setBlock w2.drew gm o) from (Kp.below B2.out).trans (Kp.grown (gr_step (show w2.grownBy w2.drew (some gm) from ⟨rfl, rfl, rfl, Nat.le_refl _, fun _ _ _ => rfl⟩) (setBlock_grown (W := w2.drew) (g := gm) (o := o))) (fun k hk => .inr (Option.some.inj hk).symm)))
    obtain ⟨w3, hw3⟩ : ∃ w3, setBlock w2.drew gm o = w3 := ⟨_, rfl⟩
    rw [hw3] at X3 M3 K3
    rw [hw3]
    clear hw3 X2 C2 M2 B2
    have hc1 := (blk_cell X3.out 1).trans (by rw [← HK.out]; rfl : _ = some (Value.int .i64 K))
    have hf1 := blk_frozen X3.out 1
    go_wp2
    first | go_end0 | ((try simp only [Exit.inBlock, Exit.then]); refine bodyPost_ret (results_none rfl _ _ _) rfl ?_)
    rw [HG.out]
    have e1 : wrap64 (K + 1) = ((256 + (D ++ [(r, c)]).length : Nat) : Int) := by
      have := HS.out.2.2
      rw [← HK.out, w64 (by omega) (by omega), List.length_append, List.length_singleton]
      omega
    have D4 := blk_set X3.out 1 (.int .i64 (wrap64 (K + 1)))
    rw [e1] at D4
    rw [e1]
    exact ⟨rfl, D4, M3.out.kept (Below.heap_setCell _ ⟨gx, 1, none⟩ _ gm (mp_ne M3.out X3.out).symm), K3.out.set (p := ⟨gx, 1, none⟩) (.inl rfl) _⟩
  · have t1 : decide (((256 + D.length : Nat) : Int) < (room : Int)) = false := decide_eq_false (fun h => hr (Int.ofNat_lt.1 h))
    have HG := Aside0.mk (show grD room D (r, c) = D from if_neg hr)
    have hc1 := (blk_cell hx 1).trans (rfl : _ = some (Value.int .i64 ((256 + D.length : Nat) : Int)))
    have hc2 := (blk_cell hx 2).trans (rfl : _ = some (Value.int .i64 (room : Int)))
    generalize hK : ((256 + D.length : Nat) : Int) = K at t1 hc1
    have HK := Aside0.mk hK
    clear hx hm hs hn hl hr hK
    go_enter Try.func13, Try.ntmps13
    go_wp2_with ((with_reducible refine gate_dst (N := 3) rfl ?_); refine box_event ?hg (N := 3) ?hd (cs := #[.int .i64 (r : Int), .int .u8 (c : Int)]) (t := 42) ?hr ?_; (case hd => rfl); (case hg => rfl); (case hr => first | (go_simp; done) | (go_simp; rfl)); intro b1 hb1 w1 hx1 hB1; have B1 := Aside0.mk hB1; have X1 := Aside0.mk (blk_below X0.out hB1); have M1 := Aside0.mk (M0.out.kept (hB1.block _ M0.out.lt)); replace hc1 := (blk_cell X1.out 1).trans (by rw [← HK.out]; rfl : _ = some (Value.int .i64 K)); replace hc2 := (blk_cell X1.out 2).trans (rfl : _ = some (Value.int .i64 (room : Int))); clear hx1 hB1 hb1)
    go_quiet (fail)
    go_wp2
    first | go_end0 | ((try simp only [Exit.inBlock, Exit.then]); refine bodyPost_ret (results_none rfl _ _ _) rfl ?_)
    rw [HG.out]
    exact ⟨rfl, X1.out, M1.out.kept rfl, Kp.below (pw_below_drewN B1.out _)⟩
end Go.Proofs.Ytnmggblhbodfgaa.Hd
/- lzw.Encode, walked by hand. -/
namespace Go.Proofs.Ytnmggblhbodfgaa.Hd
open Go Go.RowKit Go.Proofs.YtnmggblhbodfgaaW.PrintWords Go.Proofs.YtnmggblhbodfgaaW.PrintLast Go.Proofs.YtnmggblhbodfgaaW.PrintMore Go.Proofs.Ytnmggblhbodfgaa.Hw Go.Proofs.Ytnmggblhbodfgaa.Com Go.Proofs.Ytnmggblhbodfgaa.P
attribute [local go_sem] max2_int min2_int max_two min_two max_three min_three max_four min_four

/-- The bits of a text: where one stands, the steps, the bits. -/
def enc (room : Nat) : List Nat → Option Nat → List (Nat × Nat) → List Bool → List Bool
  | [], none, _, out => out
  | [], some a, D, out => (rput out a (wd (256 + D.length))).1
  | c :: t, none, D, out => enc room t (some c) D out
  | c :: t, some a, D, out => if (a, c) ∈ D then enc room t (some (256 + D.idxOf (a, c))) D out
      else enc room t (some c) (grD room D (a, c)) (rput out a (wd (256 + D.length))).1
def atI : Option Nat → Int
  | none => -1
  | some a => (a : Int)
def lzw_Encode.f (s : ByteArray) (m : Int) : Option (ByteArray × Int) :=
  if m < 9 ∨ 16 < m then some (⟨#[]⟩, 1) else if s.size ≤ 16777216 then some (bstr (enc (2 ^ m.toNat) (nb s) none [] []), 0) else none
theorem rput_len (l : List Bool) (x n : Int) : (rput l x n).1.length ≤ l.length + 56 := by
  unfold rput
  cases h : okP x n with
  | false => simp
  | true =>
    have := of_decide_eq_true h
    simp only [if_true, List.length_append, nbits_length]
    omega
theorem grD_nodup {room : Nat} {D : List (Nat × Nat)} {x : Nat × Nat} (h : D.Nodup) (hx : x ∉ D) : (grD room D x).Nodup := by
  unfold grD
  split
  · rw [List.nodup_append]
    exact ⟨h, by simp, by intro a ha b hb; rw [List.mem_singleton.1 hb]; rintro rfl; exact hx ha⟩
  · exact h
/-- What stands in memory while a text is taken. -/
structure EncS (w0 : World) (gx gm gw gs room : Nat) (s : ByteArray) (v : Value) (D : List (Nat × Nat)) (out : List Bool) (W : World) : Prop where
  hx : W.heap[gx]? = some (.cells #[.map (some gm), .int .i64 ((256 + D.length : Nat) : Int), .int .i64 (room : Int), .pointer (some ⟨gw, 0, none⟩)] 38 (0, 0))
  hm : Mp W gm D
  hb : Wb W w0.heap.size gw v out
  hs : Byt W gs s
  bl : Below w0.heap.size w0 W
  lx : w0.heap.size ≤ gx
  lm : w0.heap.size ≤ gm
  lw : w0.heap.size ≤ gw
  nm : some gm ≠ v.ownBlock
  ns : some gs ≠ v.ownBlock
  xs : gs ≠ gx
  ws : gs ≠ gw
  ms : gs ≠ gm
theorem Wb.blk {W : World} {base g : Nat} {v : Value} {l : List Bool} (h : Wb W base g v l) : ∃ cs : Array Value, W.heap[g]? = some (.cells cs 78 (0, 0)) := by
  obtain ⟨B, wo, n, _, _, _, _, h⟩ := h
  exact ⟨_, h.1⟩
theorem Wb.ne {W : World} {base g b : Nat} {v : Value} {l : List Bool} (h : Wb W base g v l) {cs : Array Value} {t : TypeId} (hb : W.heap[b]? = some (.cells cs t (0, 0))) (ht : 5 ≠ t) : some b ≠ v.ownBlock := by
  obtain ⟨B, wo, n, _, _, _, _, h⟩ := h
  exact Kd.R_ne h.2 hb ht
theorem Wb.own {W : World} {base g : Nat} {v : Value} {l : List Bool} (h : Wb W base g v l) {k : Nat} (hk : v.ownBlock = some k) : base ≤ k ∧ k < W.heap.size := by
  obtain ⟨B, wo, n, _, _, _, _, h⟩ := h
  have := (Kd.R_bound h.2)
  exact ⟨Kd.R_base h.2 k hk, Kd.R_lt h.2 k hk⟩
section
variable {w0 W W1 : World} {gx gm gw gs room : Nat} {s : ByteArray} {v v1 : Value} {D D1 : List (Nat × Nat)} {out out1 : List Bool}
theorem EncS.put (h : EncS w0 gx gm gw gs room s v D out W) (hb : Wb W1 w0.heap.size gw v1 out1) (hf : Fr W W1 gw v) (hn : Nw W v v1) : EncS w0 gx gm gw gs room s v1 D out1 W1 := by
  obtain ⟨cw, hcw⟩ := h.hb.blk
  have e : ∀ i, i < W.heap.size → i ≠ gw → some i ≠ v.ownBlock → W1.heap[i]? = W.heap[i]? := hf.2.2.2.2
  have lm := h.hm.lt
  have ls := h.hs.lt
  have lx := blk_lt h.hx
  have nn : ∀ i, i < W.heap.size → some i ≠ v.ownBlock → some i ≠ v1.ownBlock := by
    intro i hi hne
    rcases hn with h1 | ⟨b, h1, h2⟩
    · rw [h1]; exact hne
    · rw [h1]; intro e1; have := Option.some.inj e1; omega
  refine ⟨(e gx lx (blk_ne h.hx hcw (by decide)) (h.hb.ne h.hx (by decide))).trans h.hx, h.hm.kept (e gm lm (mp_ne h.hm hcw).symm h.nm), hb, h.hs.of_heap (e gs ls h.ws h.ns), ?_, h.lx, h.lm, h.lw, nn gm lm h.nm, nn gs ls h.ns, h.xs, h.ws, h.ms⟩
  refine ⟨hf.1.trans h.bl.os, hf.2.1.trans h.bl.tape, hf.2.2.1.trans h.bl.output, Nat.le_trans h.bl.size hf.2.2.2.1, fun i hi => ?_⟩
  refine (e i (Nat.lt_of_lt_of_le hi h.bl.size) (fun e1 => absurd h.lw (by omega)) (fun e1 => ?_)).trans (h.bl.block i hi)
  have := (h.hb.own e1.symm).1
  omega
theorem EncS.grow (h : EncS w0 gx gm gw gs room s v D out W) (hx : W1.heap[gx]? = some (.cells #[.map (some gm), .int .i64 ((256 + D1.length : Nat) : Int), .int .i64 (room : Int), .pointer (some ⟨gw, 0, none⟩)] 38 (0, 0)))
    (hm : Mp W1 gm D1) (hk : Kp (fun i => i = gx ∨ i = gm) W W1) : EncS w0 gx gm gw gs room s v D1 out W1 := by
  obtain ⟨cw, hcw⟩ := h.hb.blk
  have nx := h.hb.ne h.hx (by decide)
  have hb : Wb W1 w0.heap.size gw v out := by
    have hb := h.hb
    obtain ⟨B, wo, n, h1, h2, h3, h4, h5⟩ := hb
    refine ⟨B, wo, n, h1, h2, h3, h4, hk.at_ h5.1 ?_, Kd.R_mono (Kp.R (Kd.R_bound h5.2) hk ?_) (fun _ _ => trivial)⟩
    · rintro (e | e)
      · exact blk_ne h.hx hcw (by decide) e.symm
      · exact (mp_ne h.hm hcw) e
    · rintro i ⟨_, _, _, q, hq, cells, hc⟩ _ (e | e)
      · have hq5 : q = 5 := List.mem_singleton.1 (show q ∈ [5] from hq)
        subst hq5
        exact blk_ne h.hx hc (by decide) e.symm
      · exact mp_ne h.hm hc e
  refine ⟨hx, hm, hb, h.hs.of_heap (hk.2.2.2.2 gs h.hs.lt ?_), Kp.join h.bl hk ?_ h.bl.size, h.lx, h.lm, h.lw, h.nm, h.ns, h.xs, h.ws, h.ms⟩
  · rintro (e | e)
    · exact h.xs e
    · exact h.ms e
  · rintro i (e | e)
    · rw [e]; exact h.lx
    · rw [e]; exact h.lm
theorem EncS.drew (h : EncS w0 gx gm gw gs room s v D out W) (n : Nat) : EncS w0 gx gm gw gs room s v D out (W.drewN n) := by
  refine h.put (v1 := v) ?_ ?_ (.inl rfl)
  · exact h.hb.below (pw_below_drewN (Below.refl _ _) n)
  · exact Fr.of_below (pw_below_drewN (Below.refl _ _) n)
end
theorem run_look_in {W : World} {g : Nat} {D : List (Nat × Nat)} (hm : Mp W g D) (hd : D.Nodup) {x : Nat × Nat} (hx : Sok x) (h : x ∈ D) :
    (Instr.lookup 34 (.map (some g)) (skey x) true).run Try.prog W = .ok (.tuple #[.int .i64 ((256 + D.idxOf x : Nat) : Int), .bool true]) W := by
  have h1 := run_look hm hd hx
  rw [decide_eq_true h, show lookV D x = 256 + D.idxOf x from if_pos h] at h1
  exact h1
theorem run_look_out {W : World} {g : Nat} {D : List (Nat × Nat)} (hm : Mp W g D) (hd : D.Nodup) {x : Nat × Nat} (hx : Sok x) (h : x ∉ D) :
    (Instr.lookup 34 (.map (some g)) (skey x) true).run Try.prog W = .ok (.tuple #[.int .i64 0, .bool false]) W := by
  have h1 := run_look hm hd hx
  rw [decide_eq_false h, show lookV D x = 0 from if_neg h] at h1
  exact h1
/-- The writer's parts, new. -/
def Enc3 (w : World) (gm gw : Nat) (W : World) : Prop := Mp W gm [] ∧ Wb W w.heap.size gw (.slice none 0 0) [] ∧ w.heap.size ≤ gm ∧ w.heap.size ≤ gw ∧ Below w.heap.size w W
theorem wb_new {W : World} {base g : Nat} (h : Wr W base g (.slice none 0 0) [] 0 0) : Wb W base g (.slice none 0 0) [] := ⟨[], 0, 0, by simp, by omega, by omega, rfl, h⟩
theorem Wb.lower {W : World} {base base' g : Nat} {l : List Bool} (h : Wb W base g (.slice none 0 0) l) : Wb W base' g (.slice none 0 0) l := by
  obtain ⟨B, wo, n, h1, h2, h3, h4, h5⟩ := h
  have e : zi B = [] := by
    obtain ⟨A, c, e⟩ := Kd.R_slice h5.2
    have : (zi B).length = 0 := by injection e with e1 e2 e3; exact e2.symm
    exact List.eq_nil_of_length_eq_zero this
  refine ⟨B, wo, n, h1, h2, h3, h4, h5.1, ?_⟩
  rw [e]
  exact Kd.R_nil _ _ _ _ _
theorem enc3_box {w W : World} {gm gw : Nat} (h : Enc3 w gm gw W) (o : Obj) : Enc3 w gm gw (W.alloc o) ∧ (W.alloc o).heap[W.heap.size]? = some o ∧ w.heap.size ≤ W.heap.size := by
  have hb := below_alloc (Below.refl W.heap.size W) o
  exact ⟨⟨h.1.kept (hb.block _ h.1.lt), h.2.1.below hb, h.2.2.1, h.2.2.2.1, below_step h.2.2.2.2 hb⟩, (MapKept.heap_alloc W o).1, h.2.2.2.2.size⟩
theorem enc3a {w w2 w3 : World} {gm gw : Nat} (hgm : w.drew.heap.size = gm) (hb2 : Below w.drew.heap.size w.drew w2) (hm2 : Mp w3 gm []) (hW3 : Wr w3 w2.heap.size gw (.slice none 0 0) [] 0 0) (hgw : w2.heap.size ≤ gw) (hb3 : Below w2.heap.size w2 w3) : Enc3 w gm gw w3 :=
  ⟨hm2, (wb_new hW3).lower, Nat.le_of_eq hgm, Nat.le_trans hb2.size hgw, below_step (below_step (below_drew (Below.refl w.heap.size w)) hb2) hb3⟩
theorem enc3b {w w2 w3 : World} {gm gw : Nat} (hgm : w3.heap.size = gm) (hb2 : Below w3.heap.size w3 w2) (hm2 : Mp w2 gm []) (hW3 : Wr w2 w.drew.heap.size gw (.slice none 0 0) [] 0 0) (hgw : w.drew.heap.size ≤ gw) (hb3 : Below w.drew.heap.size w.drew w3) : Enc3 w gm gw w2 :=
  ⟨hm2, (wb_new hW3).lower, by have := hb3.size; rw [← hgm]; exact this, hgw, below_step (below_step (below_drew (Below.refl w.heap.size w)) hb3) hb2⟩
set_option maxHeartbeats 8000000 in
set_option maxRecDepth 100000 in
theorem lzw_Encode.calls (s : ByteArray) (m : Int) (r1 : ByteArray) (r2 : Int) (w : World) (h : lzw_Encode.f s m = some (r1, r2)) :
    Calls Try.prog 7 #[.string s, .int .i64 m] w fun e w' => e = .returned (.tuple #[.string r1, .int .i64 r2]) ∧ Below w.heap.size w w' := by
  unfold lzw_Encode.f at h
  by_cases h1 : m < 9
  · rw [if_pos (.inl h1)] at h
    obtain ⟨rfl, rfl⟩ : (⟨#[]⟩ : ByteArray) = r1 ∧ (1 : Int) = r2 := by simpa using h
    have t1 : decide (m < 9) = true := decide_eq_true h1
    clear h h1
    go_enter Try.func7, Try.ntmps7
    go_wp2
    go_ret2
    exact ⟨rfl, Below.refl _ _⟩
  have t1 : decide (m < 9) = false := decide_eq_false h1
  by_cases h2 : 16 < m
  · rw [if_pos (.inr h2)] at h
    obtain ⟨rfl, rfl⟩ : (⟨#[]⟩ : ByteArray) = r1 ∧ (1 : Int) = r2 := by simpa using h
    have t2 : decide (16 < m) = true := decide_eq_true h2
    clear h h1 h2
    go_enter Try.func7, Try.ntmps7
    go_wp2
    go_ret2
    exact ⟨rfl, Below.refl _ _⟩
  have t2 : decide (16 < m) = false := decide_eq_false h2
  rw [if_neg (by omega)] at h
  by_cases h3 : s.size ≤ 16777216
  case neg => rw [if_neg h3] at h; exact absurd h (by simp)
  rw [if_pos h3] at h
  obtain ⟨e1, rfl⟩ : bstr (enc (2 ^ m.toNat) (nb s) none [] []) = r1 ∧ (0 : Int) = r2 := by simpa using h
  obtain ⟨room, hroom⟩ : ∃ room, 2 ^ m.toNat = room := ⟨_, rfl⟩
  rw [hroom] at e1
  have p1 : (0 ≤ m) = True := eq_true (by omega)
  have RM := Aside0.mk (show wrap64 (2 ^ min m.toNat 64) = (room : Int) from by
    have e2 : min m.toNat 64 = m.toNat := by omega
    have e3 : (2 : Int) ^ m.toNat = ((2 ^ m.toNat : Nat) : Int) := by simp
    have e4 : 2 ^ m.toNat ≤ 2 ^ 16 := Nat.pow_le_pow_right (by omega) (by omega)
    rw [e2, e3, w64 (by omega) (by omega), hroom])
  have HN := Aside0.mk (And.intro e1 h3)
  clear h h1 h2 h3 e1 hroom
  go_enter Try.func7, Try.ntmps7
  go_wp2
  refine start_ (n := 7) (S := fun w' => True) (ds := []) #[false, false, false, false, false, false, false] (by kernel_rfl) rfl rfl trivial (fun hHeld => ?_)
  refine pure_ (i := 1) (N := some 19) (v := ?_) (a' := ?_) #[false, true, false, false, false, false, false] rfl rfl (by kernel_rfl) (fun _ _ _ h => h) (Or.inl ⟨by rfl, ?_⟩) ?_ ?_
  rotate_left
  · intro w'
    go_simp
    with_reducible rfl
  rotate_left
  · simp only [Act.put, List.setIfInBounds_toArray, List.set_cons_zero, List.set_cons_succ, i64_w, i32_w]
    rfl
  refine pure_ (i := 2) (N := some 20) (v := ?_) (a' := ?_) #[false, true, true, false, false, false, false] rfl rfl (by kernel_rfl) (fun _ _ _ h => h) (Or.inl ⟨by rfl, ?_⟩) ?_ ?_
  rotate_left
  · intro w'
    go_simp
    with_reducible rfl
  rotate_left
  · simp only [Act.put, List.setIfInBounds_toArray, List.set_cons_zero, List.set_cons_succ, i64_w, i32_w]
    rfl
  refine join_ (σ := (Nat × Nat)) 3 #[true, true, true, true, false, false, false] (fun s => [(18, .map (some s.1)), (21, .pointer (some ⟨s.2, 0, none⟩))]) (fun s w' => Enc3 w s.1 s.2 w') ?_ ?_
  rotate_left
  · intro hCont
    refine two_ (i := 0) (j := 3) (Ni := some 18) (Nj := some 21) #[true, true, true, false, false, false, false] #[false, true, true, true, false, false, false] rfl rfl rfl rfl (by kernel_rfl) (by decide) (by decide) (fun K hK => ?_) (fun K hK => ?_)
    · skip
      refine value_ (w1 := w.drew.alloc (.map #[] 0)) (v := .map (some w.drew.heap.size)) (by rfl) rfl (make_run rfl (run_make w.drew)) ?_
      obtain ⟨gm, hgm⟩ : ∃ g, w.drew.heap.size = g := ⟨_, rfl⟩
      have hm2 := mp_new w.drew
      have hb2 := below_alloc (Below.refl w.drew.heap.size w.drew) (.map #[] 0)
      obtain ⟨w2, hw2⟩ : ∃ w2, w.drew.alloc (.map #[] 0) = w2 := ⟨_, rfl⟩
      rw [hw2] at hm2 hb2
      rw [hgm] at hm2
      rw [hw2, hgm]
      refine hK.out _ _ trivial (fun hHeld => ?_)
      clear hK K
      refine norm_ (a' := ?_) ?_ ?_
      rotate_left
      · show Act.put _ (some 18) _ = _
        simp only [Act.put, List.setIfInBounds_toArray, List.set_cons_zero, List.set_cons_succ, i64_w, i32_w]
        rfl
      refine one_ (i := 3) (N := some 21) #[true, true, true, true, false, false, false] rfl rfl (by kernel_rfl) (by decide) (fun K hK => ?_)
      refine goes_ Try.func11 (by kernel_rfl) rfl #[] (by rfl) rfl rfl (by simp only [List.map_toArray, List.map_nil]) ?_
      with_reducible refine (New_ok w2).mono ?_
      rintro e w3 ⟨gw, rfl, hW3, hgw, hb3⟩
      refine ⟨_, rfl, ?_⟩
      have hm2 := hm2.kept (hb3.block _ hm2.lt)
      refine hK.out _ _ trivial (fun hHeld => ?_)
      clear hK K
      refine norm_ (a' := ?_) ?_ ?_
      rotate_left
      · show Act.put _ (some 21) _ = _
        simp only [Act.put, List.setIfInBounds_toArray, List.set_cons_zero, List.set_cons_succ, i64_w, i32_w]
        rfl
      exact norm_ (by simp only [putAll, Act.put, List.setIfInBounds_toArray, List.set_cons_zero, List.set_cons_succ]) (hCont (gm, gw) _ (enc3a hgm hb2 hm2 hW3 hgw hb3))
    · skip
      refine goes_ Try.func11 (by kernel_rfl) rfl #[] (by rfl) rfl rfl (by simp only [List.map_toArray, List.map_nil]) ?_
      with_reducible refine (New_ok w.drew).mono ?_
      rintro e w3 ⟨gw, rfl, hW3, hgw, hb3⟩
      refine ⟨_, rfl, ?_⟩
      refine hK.out _ _ trivial (fun hHeld => ?_)
      clear hK K
      refine norm_ (a' := ?_) ?_ ?_
      rotate_left
      · show Act.put _ (some 21) _ = _
        simp only [Act.put, List.setIfInBounds_toArray, List.set_cons_zero, List.set_cons_succ, i64_w, i32_w]
        rfl
      refine one_ (i := 0) (N := some 18) #[true, true, true, true, false, false, false] rfl rfl (by kernel_rfl) (by decide) (fun K hK => ?_)
      refine value_ (w1 := w3.alloc (.map #[] 0)) (v := .map (some w3.heap.size)) (by rfl) rfl (make_run rfl (run_make w3)) ?_
      obtain ⟨gm, hgm⟩ : ∃ g, w3.heap.size = g := ⟨_, rfl⟩
      have hm2 := mp_new w3
      have hb2 := below_alloc (Below.refl w3.heap.size w3) (.map #[] 0)
      obtain ⟨w2, hw2⟩ : ∃ w2, w3.alloc (.map #[] 0) = w2 := ⟨_, rfl⟩
      rw [hw2] at hm2 hb2
      rw [hgm] at hm2
      rw [hw2, hgm]
      have hW3 := hW3.below hb2
      refine hK.out _ _ trivial (fun hHeld => ?_)
      clear hK K
      refine norm_ (a' := ?_) ?_ ?_
      rotate_left
      · show Act.put _ (some 18) _ = _
        simp only [Act.put, List.setIfInBounds_toArray, List.set_cons_zero, List.set_cons_succ, i64_w, i32_w]
        rfl
      exact norm_ (by simp only [putAll, Act.put, List.setIfInBounds_toArray, List.set_cons_zero, List.set_cons_succ]) (hCont (gm, gw) _ (enc3b hgm hb2 hm2 hW3 hgw hb3))
  rintro ⟨gm, gw⟩ w4 h4
  have E4 := Aside0.mk h4
  clear h4
  have hHeld : True := trivial
  refine norm_ (a' := ?_) ?_ ?_
  rotate_left
  · simp only [putAll, Act.put, List.setIfInBounds_toArray, List.set_cons_zero, List.set_cons_succ]
    rfl
  refine pure_ (i := 4) (N := some 22) (v := ?_) (a' := ?_) #[true, true, true, true, true, false, false] rfl rfl (by kernel_rfl) (fun _ _ _ h => h) (Or.inl ⟨by rfl, ?_⟩) ?_ ?_
  rotate_left
  · intro w'
    go_simp
    with_reducible rfl
  rotate_left
  · simp only [Act.put, List.setIfInBounds_toArray, List.set_cons_zero, List.set_cons_succ, i64_w, i32_w]
    rfl
  refine one_ (i := 5) (N := some 23) #[true, true, true, true, true, true, false] rfl rfl (by kernel_rfl) (by decide) (fun K hK => ?_)
  refine value_ (w1 := ?_) (v := ?_) (by rfl) rfl ?_ ?_
  rotate_left 2
  · go_simp
    constructor
    · rfl
    · rfl
  have E5 := Aside0.mk (enc3_box E4.out (.cells #[.map (some gm), .int .i64 256, .int .i64 (wrap64 (2 ^ min m.toNat 64)), .pointer (some ⟨gw, 0, none⟩)] 38 (0, 0)))
  refine hK.out _ _ trivial (fun hHeld => ?_)
  clear hK K
  refine norm_ (a' := ?_) ?_ ?_
  rotate_left
  · show Act.put _ (some 23) _ = _
    simp only [Act.put, List.setIfInBounds_toArray, List.set_cons_zero, List.set_cons_succ, i64_w, i32_w]
    rfl
  refine pure_ (i := 6) (N := some 6) (v := ?_) (a' := ?_) #[true, true, true, true, true, true, true] rfl rfl (by kernel_rfl) (fun _ _ _ h => h) (Or.inl ⟨by rfl, ?_⟩) ?_ ?_
  rotate_left
  · intro w'
    go_simp
    with_reducible rfl
  rotate_left
  · simp only [Act.put, List.setIfInBounds_toArray, List.set_cons_zero, List.set_cons_succ, i64_w, i32_w]
    rfl
  refine done_ (by kernel_rfl) ?_
  clear hHeld
  rw [RM.out] at E5 ⊢
  obtain ⟨gx, hgx⟩ : ∃ g, w4.heap.size = g := ⟨_, rfl⟩
  obtain ⟨w5, hw5⟩ : ∃ w5, w4.alloc (.cells #[.map (some gm), .int .i64 256, .int .i64 (room : Int), .pointer (some ⟨gw, 0, none⟩)] 38 (0, 0)) = w5 := ⟨_, rfl⟩
  have E6 := Aside0.mk (show Enc3 w gm gw w5 ∧ w5.heap[gx]? = some (.cells #[.map (some gm), .int .i64 256, .int .i64 (room : Int), .pointer (some ⟨gw, 0, none⟩)] 38 (0, 0)) ∧ w.heap.size ≤ gx from by
    have h := E5.out
    rw [hw5, hgx] at h
    exact h)
  rw [hw5, hgx]
  clear hw5 hgx E5 E4
  go_wp2_with ((with_reducible refine gate_dst (N := 25) rfl ?_); refine conv_event rfl rfl s rfl Try.underlying9 Try.underlying39 Try.underlying5 ?_; intro w6 c6 hcc hby hB6; have Y6 := Aside0.mk hby; have B6 := Aside0.mk hB6; clear hby hB6 hcc)
  obtain ⟨gs, hgs⟩ : ∃ g, w5.heap.size = g := ⟨_, rfl⟩
  rw [hgs] at Y6
  rw [hgs]
  have ES := Aside0.mk (show EncS w gx gm gw gs room s (.slice none 0 0) [] [] w6 from by
    obtain ⟨⟨a1, a2, a3, a4, a5⟩, a6, a7⟩ := E6.out
    obtain ⟨cw, hcw⟩ := a2.blk
    have l1 := a1.lt
    have l2 := blk_lt a6
    have l3 := blk_lt hcw
    exact ⟨blk_below a6 B6.out, a1.kept (B6.out.block _ l1), a2.below B6.out, Y6.out, below_step a5 B6.out, a7, a3, a4, by simp [Value.ownBlock], by simp [Value.ownBlock], by omega, by omega, by omega⟩)
  clear E6 Y6 B6 hgs
  go_loopg [7, 27] s.size (fun q v7 v27 w' => ∃ (A L : Int) (i : Nat) (at_ : Option Nat) (v : Value) (D : List (Nat × Nat)) (out : List Bool), v7 = .int .i64 A ∧ v27 = .int .i64 L ∧ Aside0 (A = atI at_) ∧
    Aside0 (L = (i : Int) ∧ i + q = s.size ∧ D.length ≤ i ∧ out.length ≤ 56 * i ∧ D.Nodup ∧ (∀ a, at_ = some a → a ≤ 256 + i) ∧ enc room ((nb s).drop i) at_ D out = enc room (nb s) none [] []) ∧ Aside0 (EncS w gx gm gw gs room s v D out w'))
  case atStart => exact ⟨-1, 0, 0, none, .slice none 0 0, [], [], rfl, rfl, ⟨rfl⟩, ⟨rfl, by omega, by simp, by simp, by simp, by simp, rfl⟩, ES⟩
  case round =>
    clear ES
    obtain ⟨A, L, i, at_, v, D, out, rfl, rfl, AT, HA, E⟩ := hrel
    cases gk with
    | zero =>
      have t4 : decide (L < (s.size : Int)) = false := decide_eq_false (by have := HA.out; omega)
      have hf := HA.out.2.2.2.2.2.2
      rw [List.drop_eq_nil_of_le (by rw [nb_length]; have := HA.out; omega)] at hf
      cases at_ with
      | none =>
        obtain rfl : A = -1 := AT.out
        obtain rfl : bstr out = r1 := by rw [← HN.out.1, ← hf, enc]
        have hc3 := (blk_cell E.out.hx 3).trans (rfl : _ = some (Value.pointer (some ⟨gw, 0, none⟩)))
        clear hf
        go_wp2_with (first
          | (go_at_call 14; refine (Bytes_b gw v out w.heap.size _ E.out.hb (by have := HA.out; have := HN.out; omega)).mono ?_; rintro e w7 ⟨rfl, hB⟩; have B7 := Aside0.mk (below_step E.out.bl hB); clear hB))
        go_ret2
        exact ⟨rfl, B7.out⟩
      | some a =>
        obtain rfl : A = (a : Int) := AT.out
        obtain rfl : bstr (rput out a (wd (256 + D.length))).1 = r1 := by rw [← HN.out.1, ← hf, enc]
        have t5 : ((a : Int) != -1) = true := bne_iff_ne.2 (by omega)
        have ha := HA.out.2.2.2.2.2.1 a rfl
        have HL := Aside0.mk (And.intro ha (rput_len out a (wd (256 + D.length))))
        clear hf ha
        go_wp2_with (first
          | (go_at_call 12; refine (put_ok gx gm gw v room (256 + D.length) a w.heap.size out _ E.out.hx E.out.hb E.out.lw (by omega) (by have := HA.out; have := HN.out; omega) (by have := HA.out; have := HN.out; have := HL.out; omega) (by have := HA.out; have := HN.out; omega)).mono ?_; rintro e w7 ⟨v7, rfl, hW, hF, hN⟩; have E7 := Aside0.mk (E.out.put hW hF hN); have hc3 := (blk_cell E7.out.hx 3).trans (rfl : _ = some (Value.pointer (some ⟨gw, 0, none⟩))); clear hW hF hN)
          | (go_at_call 14; refine (Bytes_b gw v7 _ w.heap.size _ E7.out.hb (by have := HA.out; have := HN.out; have := HL.out; omega)).mono ?_; rintro e w8 ⟨rfl, hB⟩; have B8 := Aside0.mk (below_step E7.out.bl hB); clear hB))
        go_ret2
        exact ⟨rfl, B8.out⟩
    | succ q =>
      have t4 : decide (L < (s.size : Int)) = true := decide_eq_true (by have := HA.out; omega)
      have p2 : (0 ≤ L) = True := eq_true (by have := HA.out; omega)
      have p3 : (L < (s.size : Int)) = True := eq_true (by have := HA.out; omega)
      have hi : i < s.size := by have := HA.out; omega
      have eL : L.toNat = i := by have := HA.out; omega
      obtain ⟨c, hc⟩ : ∃ c : Nat, (nb s).getD i 0 = c := ⟨_, rfl⟩
      have hc1 := E.out.hs.cell i hi
      rw [bt_nb, hc, ← eL] at hc1
      have hil : i < (nb s).length := by rw [nb_length]; exact hi
      have ec : (nb s)[i] = c := by
        rw [← hc, List.getD_eq_getElem?_getD, List.getElem?_eq_getElem hil]; rfl
      have hd : (nb s).drop i = c :: (nb s).drop (i + 1) := by rw [List.drop_eq_getElem_cons hil, ec]
      have HC := Aside0.mk (show c < 256 by rw [← ec]; exact nb_lt s _ (List.getElem_mem hil))
      have hE := HA.out.2.2.2.2.2.2
      rw [hd] at hE
      have HL := Aside0.mk (show wrap64 (L + 1) = ((i + 1 : Nat) : Int) from by
        have h1 := HA.out.1
        have h2 := HN.out.2
        rw [h1, w64 (by omega) (by omega)]; omega)
      clear hi eL hil ec hd hc
      cases at_ with
      | none =>
        obtain rfl : A = -1 := AT.out
        rw [enc] at hE
        have HE := Aside0.mk hE
        clear hE
        go_wp2
        go_roundg q
        case measure => omega
        case rel => exact ⟨_, _, i + 1, some c, v, D, out, rfl, by rw [HL.out], ⟨by have := HC.out; rw [w64 (by omega) (by omega)]; rfl⟩, ⟨rfl, by have := HA.out; omega, by have := HA.out; omega, by have := HA.out; omega, HA.out.2.2.2.2.1, fun a ha => by have := Option.some.inj ha; have := HC.out; omega, HE.out⟩, E⟩
      | some a =>
        obtain rfl : A = (a : Int) := AT.out
        have t5 : ((a : Int) == -1) = false := beq_false_of_ne (by omega)
        have ha := HA.out.2.2.2.2.2.1 a rfl
        have hc0 := (blk_cell E.out.hx 0).trans (rfl : _ = some (Value.map (some gm)))
        have HS := Aside0.mk (show Sok (a, c) from ⟨by have := HA.out; have := HN.out; omega, HC.out⟩)
        by_cases hx : (a, c) ∈ D
        · rw [enc, if_pos hx] at hE
          have HE := Aside0.mk hE
          have HX := Aside0.mk hx
          clear hE hx ha
          go_wp2_with ((with_reducible refine gate_dst (N := 43) rfl ?_); refine val_event rfl (look_run (mv := .map (some gm)) (kv := skey (a, c)) rfl rfl rfl (run_look_in (E.out.hm.kept rfl) HA.out.2.2.2.2.1 HS.out HX.out)) ?_)
          go_roundg q
          case measure => omega
          case rel => exact ⟨_, _, i + 1, some (256 + D.idxOf (a, c)), v, D, out, rfl, by rw [HL.out], ⟨rfl⟩, ⟨rfl, by have := HA.out; omega, by have := HA.out; omega, by have := HA.out; omega, HA.out.2.2.2.2.1, fun b hb => by have h1 := Option.some.inj hb; have := HA.out; have := List.idxOf_lt_length_iff.2 HX.out; omega, HE.out⟩, E⟩
        · rw [enc, if_neg hx] at hE
          have HE := Aside0.mk hE
          have HX := Aside0.mk hx
          have HP := Aside0.mk (And.intro ha (And.intro (rput_len out a (wd (256 + D.length))) (And.intro (grD_len room D (a, c)) (grD_nodup (room := room) HA.out.2.2.2.2.1 hx))))
          clear hE hx ha
          go_wp2_with (first
            | ((with_reducible refine gate_dst (N := 43) rfl ?_); refine val_event rfl (look_run (mv := .map (some gm)) (kv := skey (a, c)) rfl rfl rfl (run_look_out (E.out.hm.kept rfl) HA.out.2.2.2.2.1 HS.out HX.out)) ?_)
            | (go_at_call 12; refine (put_ok gx gm gw v room (256 + D.length) a w.heap.size out _ E.out.hx E.out.hb E.out.lw (by omega) (by have := HA.out; have := HN.out; omega) HS.out.1 (by have := HA.out; have := HN.out; omega)).mono ?_; rintro e w7 ⟨v7, rfl, hW, hF, hN⟩; have E7 := Aside0.mk (E.out.put hW hF hN); clear hW hF hN)
            | (go_at_call 13; refine (grow_ok gx gm gw room a c D _ E7.out.hx E7.out.hm HS.out HX.out (by have := HA.out; have := HN.out; omega)).mono ?_; rintro e w8 ⟨rfl, hW, hM, hK⟩; have E8 := Aside0.mk (E7.out.grow hW hM hK); clear hW hM hK))
          go_roundg q
          case measure => omega
          case rel => exact ⟨_, _, i + 1, some c, v7, grD room D (a, c), (rput out a (wd (256 + D.length))).1, rfl, by rw [HL.out], ⟨by have := HC.out; rw [w64 (by omega) (by omega)]; rfl⟩, ⟨rfl, by have := HA.out; omega, by have := HA.out; have := HP.out; omega, by have := HA.out; have := HP.out; omega, HP.out.2.2.2, fun b hb => by have h1 := Option.some.inj hb; have := HC.out; omega, HE.out⟩, E8⟩
end Go.Proofs.Ytnmggblhbodfgaa.Hd
/- bitr's reader beside other memory: its state told by the blocks alone. -/
namespace Go.Proofs.Ytnmggblhbodfgaa.Hd
open Go Go.RowKit Go.Proofs.YtnmggblhbodfgaaW.PrintWords Go.Proofs.YtnmggblhbodfgaaW.PrintLast Go.Proofs.YtnmggblhbodfgaaW.PrintMore Go.Proofs.Ytnmggblhbodfgaa.Hw Go.Proofs.Ytnmggblhbodfgaa.Com Go.Proofs.Ytnmggblhbodfgaa.P
attribute [local go_sem] max2_int min2_int max_two min_two max_three min_three max_four min_four
theorem zs_bytes (s : ByteArray) : bytesOf s = zs (nb s) := by simp [bytesOf, zs, nb]
/-- A world's head. -/
def trunc (W : World) (n : Nat) : World := { W with heap := W.heap.extract 0 n }
theorem trunc_size {W : World} {n : Nat} (h : n ≤ W.heap.size) : (trunc W n).heap.size = n := by
  show (W.heap.extract 0 n).size = n
  rw [Array.size_extract]; omega
theorem trunc_at {W : World} {n i : Nat} (h : i < n) : (trunc W n).heap[i]? = W.heap[i]? := by
  show (W.heap.extract 0 n)[i]? = _
  rw [Array.getElem?_extract]
  split
  · rw [Nat.zero_add]
  · rename_i h1
    rw [Array.getElem?_eq_none]
    omega
theorem trunc_below {W : World} {n : Nat} (h : n ≤ W.heap.size) : Below (trunc W n).heap.size (trunc W n) W :=
  ⟨rfl, rfl, rfl, by rw [trunc_size h]; exact h, fun i hi => by rw [trunc_size h] at hi; exact (trunc_at hi).symm⟩
/-- A reader at block g, its bytes at block b, so far read. -/
def RdS (W : World) (g b : Nat) (s : ByteArray) (p : Nat) : Prop :=
  (∃ c : Nat, W.heap[g]? = some (.cells #[.slice (some ⟨b, 0, none⟩) s.size c, .int .i64 (p : Int)] 82 (0, 0))) ∧ (∃ (cs : Array Value) (fr : Nat × Nat), W.heap[b]? = some (.cells cs 5 fr)) ∧ Byt W b s ∧ b < g ∧ s.size ≤ 1099511627776
section
variable {W W1 : World} {g b p p' : Nat} {s : ByteArray}
theorem RdS.move (h : RdS W g b s p) (hg : W1.heap[g]? = W.heap[g]?) (hb : W1.heap[b]? = W.heap[b]?) : RdS W1 g b s p := by
  obtain ⟨⟨c, h1⟩, ⟨cs, fr, h2⟩, h3, h4, h5⟩ := h
  exact ⟨⟨c, hg.trans h1⟩, ⟨cs, fr, hb.trans h2⟩, h3.of_heap hb, h4, h5⟩
theorem RdS.lt (h : RdS W g b s p) : g < W.heap.size ∧ b < W.heap.size := by
  obtain ⟨⟨c, h1⟩, _, h3, _⟩ := h
  exact ⟨blk_lt h1, h3.lt⟩
theorem RdS.below (h : RdS W g b s p) (hB : Below W.heap.size W W1) : RdS W1 g b s p := h.move (hB.block _ h.lt.1) (hB.block _ h.lt.2)
theorem RdS.is (h : RdS W g b s p) : Q.IsS82 (trunc W (b + 1)) W g (zs (nb s)) (p : Int) ∧ Below (trunc W (b + 1)).heap.size (trunc W (b + 1)) W := by
  have hl := h.lt
  obtain ⟨⟨c, h1⟩, ⟨cs, fr, h2⟩, h3, h4, h5⟩ := h
  have hz := trunc_size (W := W) (n := b + 1) (by omega)
  have hlen : (zs (nb s)).length = s.size := by rw [zs_length, nb_length]
  refine ⟨⟨some ⟨b, 0, none⟩, c, ?_, ⟨by rw [hz]; omega, by rw [hz]; rfl⟩, ?_⟩, trunc_below (by omega)⟩
  · rw [hlen]; exact h1
  · have := bytes_C (h3.of_heap (W1 := trunc W (b + 1)) (trunc_at (by omega))) (by simp [maxLen]; omega)
    rw [zs_bytes] at this
    rw [hlen]
    exact this
theorem RdS.of (h : RdS W g b s p) (hI : Q.IsS82 (trunc W (b + 1)) W1 g (zs (nb s)) (p' : Int)) (hk : KeepBut W W1 g none) : RdS W1 g b s p' := by
  have hl := h.lt
  obtain ⟨⟨c, h1⟩, ⟨cs, fr, h2⟩, h3, h4, h5⟩ := h
  obtain ⟨A0, c0, i1, ⟨i2, i3⟩, i4⟩ := hI
  have hz := trunc_size (W := W) (n := b + 1) (by omega)
  have hlen : (zs (nb s)).length = s.size := by rw [zs_length, nb_length]
  rw [hz] at i3
  subst i3
  rw [hlen] at i1
  have hb : W1.heap[b]? = W.heap[b]? := hk.2 b hl.2 (by omega) (by simp)
  exact ⟨⟨c0, i1⟩, ⟨cs, fr, hb.trans h2⟩, h3.of_heap hb, h4, h5⟩
end
theorem take_ev (B : List Nat) (hB : ∀ x ∈ B, x < 256) (hl : B.length ≤ 1099511627776) (p : Nat) (hp : p ≤ 8 * B.length) (a : Int) : Ev (fun k => bitr_Reader_Take.f k (zs B) (p : Int) a) (rtake B p a) := by
  unfold bitr_Reader_Take.f
  refine Ev.bind (peek_ev B hB hl p hp a) (Ev.bind (skip_ev B hl p hp a) ?_)
  unfold rtake rskip rpeek
  cases hw : inW a with
  | false => exact Ev.ifn (by simp) (Ev.now _)
  | true =>
    simp only [if_true]
    by_cases h : p + a.toNat ≤ 8 * B.length
    · rw [if_pos h, if_pos h]; exact Ev.ifp rfl (Ev.now _)
    · rw [if_neg h, if_neg h]; exact Ev.ifn (by simp) (Ev.now _)
section
variable {P : Program} {ops : Array Oper} {rest : List Oper} {o : Oper} {a : Act} {Q : Exit → Act → World → Prop}
theorem conv_event5 {W : World} (hgd : o.guard = none) {src dst e : TypeId} {x : Operand} (ho : o.op = .convert src dst x) (s : ByteArray) (hx : a.eval x = .string s) {u : TypeDesc}
    (hs : P.underlying src = some u) (hd : P.underlying dst = some (.slice e)) (he : P.underlying e = some (.int .u8))
    (h : ∀ b w1 c, b = W.heap.size → s.size ≤ c → Byt w1 b s → (∃ (cs : Array Value) (fr : Nat × Nat), w1.heap[b]? = some (.cells cs e fr)) → Below W.heap.size W w1 → wpList P ops Q rest (a.put o.dst (.slice (some ⟨b, 0, none⟩) s.size c)) w1) : wpList P ops Q (o :: rest) a W := by
  have hr := Go.Lib.run_convert_string_bytes (P := P) W src dst e s hs hd he
  refine val_event (v := .slice (some ⟨W.heap.size, 0, none⟩) s.size (grownCap W s.size 0 e)) hgd ?_ (h _ _ _ rfl (grownCap_ge W s.size 0 e) (bytes_byt W e s) ⟨_, _, Go.Lib.bytesWorld_at_new W e s⟩ (bytes_below W e s))
  simp [execOp, ho, hx, hr]
end
set_option maxHeartbeats 2000000 in
set_option maxRecDepth 100000 in
theorem New_rd (s : ByteArray) (w : World) (hs : s.size ≤ 1099511627776) :
    Calls Try.prog 21 #[.string s] w fun e w' => ∃ g b : Nat, e = .returned (.pointer (some ⟨g, 0, none⟩)) ∧ RdS w' g b s 0 ∧ w.heap.size ≤ b ∧ Below w.heap.size w w' := by
  have HS := Aside0.mk hs
  clear hs
  go_enter Try.func21, Try.ntmps21
  go_wp2_with (first
    | ((with_reducible refine gate_dst (N := 5) rfl ?_); refine conv_event5 rfl rfl s rfl Try.underlying9 Try.underlying39 Try.underlying5 ?_; intro b w2 c hb2 hcc hby hty hB2; have Y2 := Aside0.mk (And.intro hb2 (And.intro hby hty)); have B2 := Aside0.mk hB2; have q1 : ((s.size : Int) ≤ (c : Int)) = True := eq_true (by omega); have q2 : (0 ≤ (s.size : Int)) = True := eq_true (by omega); clear hby hB2 hcc hb2 hty)
    | ((with_reducible refine gate_dst (N := 13) rfl ?_); refine box_event ?hg (N := 13) ?hd (cs := #[.slice (some ⟨b, 0, none⟩) s.size s.size, .int .i64 0]) (t := 82) ?hr ?_; (case hd => rfl); (case hg => rfl); (case hr => first | (go_simp; done) | (go_simp; rfl)); intro g3 hg3 w3 hx3 hB3; have X3 := Aside0.mk hx3; have B3 := Aside0.mk hB3; have G3 := Aside0.mk hg3; clear hx3 hB3 hg3))
  go_ret
  obtain ⟨e1, hby, cs, fr, hty⟩ := Y2.out
  have lb := hby.lt
  have hg := G3.out
  exact ⟨g3, b, rfl, ⟨⟨_, X3.out⟩, ⟨cs, fr, (B3.out.block b lb).trans hty⟩, hby.below B3.out, by omega, HS.out⟩, by omega, below_step B2.out B3.out⟩
section
variable {W W1 : World} {g b p p' : Nat} {s : ByteArray}
theorem kp_of {n : Nat} {W0 : World} (h0 : W0.os = W.os ∧ W0.tape = W.tape ∧ W0.output = W.output) (hB : Below n W0 W1) (hK : KeepBut W W1 g none) : Kp (fun i => i = g) W W1 :=
  ⟨hB.os.trans h0.1, hB.tape.trans h0.2.1, hB.output.trans h0.2.2, hK.1, fun i hi hn => hK.2 i hi hn (by simp)⟩
theorem Take_rd (k : Int) (h : RdS W g b s p) (hp : p ≤ 8 * s.size) : Calls Try.prog 35 #[.pointer (some ⟨g, 0, none⟩), .int .i64 k] W fun e w' => ∃ p' : Nat, e = .returned (.tuple #[.int .u64 (rtake (nb s) p k).1, .int .i64 (rtake (nb s) p k).2.1]) ∧ (rtake (nb s) p k).2.2 = (p' : Int) ∧ p' ≤ 8 * s.size ∧ RdS w' g b s p' ∧ Kp (fun i => i = g) W w' := by
  have hl : (nb s).length ≤ 1099511627776 := by rw [nb_length]; exact h.2.2.2.2
  have hp2 : p ≤ 8 * (nb s).length := by rw [nb_length]; exact hp
  obtain ⟨k0, hk⟩ := ev_get (take_ev (nb s) (nb_lt s) hl p hp2 k)
  refine (Q.bitr_Reader_Take.calls k0 g _ _ k (rtake (nb s) p k).1 (rtake (nb s) p k).2.1 (rtake (nb s) p k).2.2 (trunc W (b + 1)) W h.is.1 h.is.2 hk).mono ?_
  rintro e w' ⟨rfl, hI, hB, hK⟩
  obtain ⟨p', hp1, hp3⟩ : ∃ p' : Nat, (rtake (nb s) p k).2.2 = (p' : Int) ∧ p' ≤ 8 * s.size := by
    unfold rtake
    split
    · split
      · exact ⟨_, rfl, by rw [← nb_length]; assumption⟩
      · exact ⟨p, rfl, hp⟩
    · exact ⟨p, rfl, hp⟩
  rw [hp1] at hI
  exact ⟨p', rfl, hp1, hp3, h.of hI hK, kp_of (W0 := trunc W (b + 1)) ⟨rfl, rfl, rfl⟩ hB hK⟩
theorem Peek_rd (k : Int) (h : RdS W g b s p) (hp : p ≤ 8 * s.size) : Calls Try.prog 26 #[.pointer (some ⟨g, 0, none⟩), .int .i64 k] W fun e w' => e = .returned (.int .u64 (rpeek (nb s) p k)) ∧ RdS w' g b s p ∧ Kp (fun i => i = g) W w' := by
  have hl : (nb s).length ≤ 1099511627776 := by rw [nb_length]; exact h.2.2.2.2
  have hp2 : p ≤ 8 * (nb s).length := by rw [nb_length]; exact hp
  obtain ⟨k0, hk⟩ := ev_get (peek_ev (nb s) (nb_lt s) hl p hp2 k)
  refine (Q.bitr_Reader_Peek.calls k0 g _ _ k _ _ (trunc W (b + 1)) W h.is.1 h.is.2 hk).mono ?_
  rintro e w' ⟨rfl, hI, hB, hK⟩
  exact ⟨rfl, h.of hI hK, kp_of (W0 := trunc W (b + 1)) ⟨rfl, rfl, rfl⟩ hB hK⟩
theorem Left_rd (h : RdS W g b s p) (hp : p ≤ 8 * s.size) : Calls Try.prog 25 #[.pointer (some ⟨g, 0, none⟩)] W fun e w' => e = .returned (.int .i64 ((8 * s.size - p : Nat) : Int)) ∧ RdS w' g b s p ∧ Kp (fun i => i = g) W w' := by
  have hl : (nb s).length ≤ 1099511627776 := by rw [nb_length]; exact h.2.2.2.2
  have hp2 : p ≤ 8 * (nb s).length := by rw [nb_length]; exact hp
  have hk := left_f (nb s) hl p hp2
  rw [nb_length] at hk
  refine (Q.bitr_Reader_Left.calls g _ _ _ _ (trunc W (b + 1)) W h.is.1 h.is.2 hk).mono ?_
  rintro e w' ⟨rfl, hI, hB, hK⟩
  exact ⟨rfl, h.of hI hK, kp_of (W0 := trunc W (b + 1)) ⟨rfl, rfl, rfl⟩ hB hK⟩
end
end Go.Proofs.Ytnmggblhbodfgaa.Hd
/- strings.Builder, walked by hand. -/
namespace Go.Proofs.Ytnmggblhbodfgaa.Hd
open Go Go.RowKit Go.Proofs.YtnmggblhbodfgaaW.PrintWords Go.Proofs.YtnmggblhbodfgaaW.PrintLast Go.Proofs.YtnmggblhbodfgaaW.PrintMore Go.Proofs.Ytnmggblhbodfgaa.Hw Go.Proofs.Ytnmggblhbodfgaa.Com Go.Proofs.Ytnmggblhbodfgaa.P
attribute [local go_sem] max2_int min2_int max_two min_two max_three min_three max_four min_four
/-- A builder at block g: its row, its bytes. -/
def Bl (W : World) (base g : Nat) (v : Value) (xs : List Int) : Prop :=
  ∃ q : Value, (q = .pointer none ∨ q = .pointer (some ⟨g, 0, none⟩)) ∧ W.heap[g]? = some (.cells #[q, v] 63 (0, 0)) ∧ Kd.R (Kd.int .u8) 5 W base (fun _ => True) v xs ∧ base ≤ g
section
variable {W W1 : World} {base g : Nat} {v : Value} {xs : List Int}
theorem Bl.move (h : Bl W base g v xs) (hg : W1.heap[g]? = W.heap[g]?) (hv : ∀ k, k < W.heap.size → (∃ cs : Array Value, W.heap[k]? = some (.cells cs 5 (0, 0))) → W1.heap[k]? = W.heap[k]?) : Bl W1 base g v xs := by
  obtain ⟨q, hq, hb, hr, hl⟩ := h
  refine ⟨q, hq, hg.trans hb, Kd.R_mono (Kd.R_move (Kd.R_bound hr) (fun k hk => ?_)) (fun _ _ => trivial), hl⟩
  obtain ⟨_, _, hlt, q5, hq5, cs, hc⟩ := hk
  have : q5 = 5 := List.mem_singleton.1 (show q5 ∈ [5] from hq5)
  subst this
  exact hv k hlt ⟨cs, hc⟩
theorem Bl.below (h : Bl W base g v xs) (hB : Below W.heap.size W W1) : Bl W1 base g v xs := by
  refine h.move (hB.block _ ?_) (fun k hk _ => hB.block k hk)
  obtain ⟨q, hq, hb, _⟩ := h
  exact blk_lt hb
end
theorem sizeBld : (Try.prog.info? 63).map (·.size) = some 2 := by kernel_rfl
theorem liesBld : liesAt Try.prog Try.prog.depth 63 (2 / Try.prog.cellsOf 63) 0 63 1 = true := by kernel_rfl
theorem undUnsafe : Try.prog.underlying 90 = some .unsafePointer := by kernel_rfl
theorem undBldP : Try.prog.underlying 61 = some (.pointer 63) := by kernel_rfl
theorem shape2 {W : World} {g : Nat} {x y : Value} {t : TypeId} (h : W.heap[g]? = some (.cells #[x, y] t (0, 0))) : W.shape? g = some (t, 2) := by simp [World.shape?, h]
set_option maxHeartbeats 2000000 in
set_option maxRecDepth 100000 in
theorem copy_ok (g base : Nat) (v : Value) (xs : List Int) (w : World) (hI : Bl w base g v xs) :
    Calls Try.prog 36 #[.pointer (some ⟨g, 0, none⟩)] w fun e w' => e = .returned (.tuple #[]) ∧ w'.heap[g]? = some (.cells #[.pointer (some ⟨g, 0, none⟩), v] 63 (0, 0)) ∧ Kp (fun i => i = g) w w' := by
  obtain ⟨q, hq, hb, hr, hl⟩ := hI
  have HB := Aside0.mk hb
  have hc0 := (blk_cell hb 0).trans (rfl : _ = some q)
  have hf0 := blk_frozen hb 0
  rcases hq with rfl | rfl
  · clear hb hr hl
    go_enter Try.func36, Try.ntmps36
    obtain ⟨j, hj, hjs⟩ := Option.map_eq_some_iff.1 sizeBld
    go_wp2
    rw [Lib.run_to_unsafe w ⟨g, 0, none⟩ undBldP undUnsafe hj (by rw [hjs]; decide) (shape2 HB.out) (Nat.zero_lt_succ 1)]
    simp only [Result.andThen]
    rw [Oper.upon_value]
    go_wp2
    rw [run_callFunc_extern Try.func42 (by kernel_rfl) (by kernel_rfl) (by kernel_rfl) (e := Extern.AbiNoEscape.same) (by kernel_rfl)]
    rw [Lib.run_noEscape]
    simp only [Result.andThen]
    rw [Oper.upon_value]
    go_wp2
    rw [Lib.run_from_unsafe w ⟨g, 0, none⟩ undUnsafe undBldP hj (shape2 HB.out) liesBld]
    simp only [Result.andThen]
    rw [Oper.upon_value]
    go_wp2
    go_end0
    exact ⟨rfl, blk_set HB.out 0 _, (Kp.refl (fun i => i = g) w).set (p := ⟨g, 0, none⟩) rfl _⟩
  · clear hb hr hl hf0
    go_enter Try.func36, Try.ntmps36
    go_wp2
    obtain ⟨j, hj, _⟩ := Option.map_eq_some_iff.1 sizeBld
    rw [Lib.run_neq_ptr_same w _ undBldP hj]
    go_wp2
    go_end0
    exact ⟨rfl, HB.out, Kp.refl _ _⟩
theorem bl_copied {w w1 : World} {base g : Nat} {v : Value} {xs : List Int} (hI : Bl w base g v xs) (hk : Kp (fun i => i = g) w w1) : Kd.R (Kd.int .u8) 5 w1 base (fun _ => True) v xs ∧ some g ≠ v.ownBlock ∧ base ≤ w1.heap.size := by
  obtain ⟨q, hq, hb, hr, hlg⟩ := hI
  have hne := Kd.R_ne hr hb (by decide)
  have hz := hk.size
  have hlt := blk_lt hb
  refine ⟨?_, hne, by omega⟩
  have h1 : Kd.R (Kd.int .u8) 5 w base (fun k => True ∧ k ≠ g) v xs := Kd.R_types hr hb (by decide)
  exact Kd.R_mono (Kp.R h1 hk (fun i hi _ he => hi.2 he)) (fun _ _ => trivial)
theorem info5u : (Try.prog.info? 5).map (fun i => (i.zero, i.size, i.bytes)) = some (some (.int .u8 0), 1, 1) := by kernel_rfl
set_option maxHeartbeats 2000000 in
set_option maxRecDepth 100000 in
theorem Write_ok (g base : Nat) (v : Value) (xs : List Int) (y : ByteArray) (w : World) (hI : Bl w base g v xs) (hl : xs.length + y.size ≤ 140737488355328) :
    Calls Try.prog 24 #[.pointer (some ⟨g, 0, none⟩), .string y] w fun e w' => ∃ v' : Value, e = .returned (.tuple #[.int .i64 (y.size : Int), .nilIface]) ∧ Bl w' base g v' (xs ++ bytesOf y) ∧ Kp (fun i => i = g ∨ some i = v.ownBlock) w w' := by
  have I0 := Aside0.mk hI
  have HL := Aside0.mk hl
  clear hI hl
  go_enter Try.func24, Try.ntmps24
  go_wp2_with (first
    | (go_at_call 36; refine (copy_ok g base v xs _ I0.out).mono ?_; rintro e w1 ⟨rfl, hb1, hk1⟩; have B1 := Aside0.mk hb1; have K1 := Aside0.mk hk1; have R1 := Aside0.mk (bl_copied I0.out hk1); have HE := Aside0.mk (Below.refl base w1); clear hb1 hk1; have hc1 := (blk_cell B1.out 1).trans (rfl : _ = some v))
    | (at_builtin; refine print_append_str (w0 := w1) base rfl _ _ 39 9 5 rfl Try.underlying39 Try.underlying9 info5u v xs y rfl rfl (Kd.own_of_R R1.out.1) HE.out R1.out.2.2 HL.out ?_; intro v2 w2 ho2_ hb2 hg2; have ho2 : Kd.R (Kd.int .u8) 5 w2 base (fun _ => True) v2 (xs ++ bytesOf y) := Kd.R_of_own (enc := Value.int .u8) (h1 := fun _ => rfl) ho2_ (fun _ _ => trivial); obtain ⟨A2, c2, rfl⟩ := Kd.R_slice ho2; clear ho2_; obtain ⟨n2, hn2⟩ : ∃ n, (xs ++ bytesOf y).length = n := ⟨_, rfl⟩; rw [hn2] at ho2; have O2 := Aside0.mk ho2; have G2 := Aside0.mk hg2; have B2 := Aside0.mk (blk_grown B1.out hg2 R1.out.2.1); clear ho2 hb2 hg2; have hf1 := blk_frozen B2.out 1; replace hc1 := (blk_cell B2.out 1).trans (rfl : _ = some v)))
  go_ret2
  have B3 := blk_set B2.out 1 (.slice A2 n2 c2)
  obtain ⟨q, hq, hb, hr, hlg⟩ := I0.out
  exact ⟨.slice A2 n2 c2, rfl, ⟨_, .inr rfl, B3, Kd.R_set O2.out B2.out (by decide) 1 _, hlg⟩, (((K1.out.imp (S' := fun i => i = g ∨ some i = v.ownBlock) (fun _ _ h => .inl h)).trans (Kp.grown G2.out (fun k hk => .inr hk.symm))).set (p := ⟨g, 1, none⟩) (.inl rfl) _)⟩
set_option maxHeartbeats 2000000 in
set_option maxRecDepth 100000 in
theorem Len_bl (g base : Nat) (v : Value) (xs : List Int) (w : World) (hI : Bl w base g v xs) :
    Calls Try.prog 22 #[.pointer (some ⟨g, 0, none⟩)] w fun e w' => e = .returned (.int .i64 (xs.length : Int)) ∧ Below w.heap.size w w' := by
  obtain ⟨q, hq, hb, hr, hl⟩ := hI
  obtain ⟨A, c, rfl⟩ := Kd.R_slice hr
  have hc1 := (blk_cell hb 1).trans (rfl : _ = some (Value.slice A xs.length c))
  clear hb hr hl hq
  go_enter Try.func22, Try.ntmps22
  go_wp2
  go_ret
  exact ⟨rfl, by repeat (first | exact Below.refl _ _ | apply pw_below_drewN | apply below_drew1)⟩
theorem bytesOf_list (y : ByteArray) : bytesOf y = y.data.toList.map (fun b : UInt8 => ((b.toNat : Nat) : Int)) := rfl
theorem und85 : Try.prog.underlying 85 = some (.pointer 5) := by kernel_rfl
theorem cells5 : Try.prog.cellsOf 5 = 1 := by kernel_rfl
set_option maxHeartbeats 2000000 in
set_option maxRecDepth 100000 in
theorem Str_nil (g base : Nat) (w : World) (hI : Bl w base g (.slice none 0 0) []) :
    Calls Try.prog 27 #[.pointer (some ⟨g, 0, none⟩)] w fun e w' => e = .returned (.string ⟨#[]⟩) ∧ Below w.heap.size w w' := by
  obtain ⟨q, hq, hb, hr, hl⟩ := hI
  have c1 : w.drew.cell? ⟨g, 1, none⟩ = some (.slice none 0 0) := (blk_cell (show w.drew.heap[g]? = _ from hb) 1).trans (rfl : _ = some (Value.slice none 0 0))
  have hSD : (Builtin.unsafeSliceData_ #[39] 85 #[.slice none 0 0]).run Try.prog w.drew = .ok (.pointer none) w.drew := rfl
  have hUS : (Builtin.unsafeString_ #[85, 3] 9 #[.pointer none, .int .i64 0]).run Try.prog w.drew = .ok (.string .empty) w.drew := Lib.run_unsafeString_none w.drew _ _ _ none
  clear hb hr hl hq
  go_enter Try.func27, Try.ntmps27
  go_wp2
  have mixed : Try.prog.follows Departure.mixedOrders = true := by kernel_rfl
  go_region_o
  all_goals (go_wp2; go_ret; exact ⟨rfl, below_drew (Below.refl _ _)⟩)
set_option maxHeartbeats 2000000 in
set_option maxRecDepth 100000 in
theorem Str_ok (g base : Nat) (v : Value) (y : ByteArray) (w : World) (hI : Bl w base g v (bytesOf y)) (h0 : y.size ≠ 0) (hl : y.size ≤ 1099511627776) :
    Calls Try.prog 27 #[.pointer (some ⟨g, 0, none⟩)] w fun e w' => e = .returned (.string y) ∧ Below base w w' := by
  obtain ⟨q, hq, hb, hr, hlg⟩ := hI
  have hlen := bytesOf_length y
  obtain ⟨b, cap, rfl, hbb, hbl, cells, hbc⟩ := Kd.R_form hr (by omega)
  rw [hlen] at hr hb
  have hown := Kd.own_of_R (enc := Value.int .u8) (h1 := fun _ => rfl) hr
  rw [hlen] at hown
  have hcap : y.size ≤ cap ∧ y.size ≤ cells.size := by
    rcases hown.2 with ⟨h1, _⟩ | ⟨g1, cap1, cur1, h1, h2, h3, h4, h5, h6, h7⟩
    · cases h1
    · injection h1 with e1 e2 e3
      injection e1 with e1
      injection e1 with e1
      subst e1 e3
      rw [hbc] at h3
      injection h3 with h3
      injection h3 with h3
      subst h3
      exact ⟨h4, by rw [h6]; omega⟩
  have hne : y.data.toList ≠ [] := fun e => h0 (by have := congrArg List.length e; rw [data_length] at this; exact this)
  have hdl := data_length y
  have c1 : w.drew.cell? ⟨g, 1, none⟩ = some (.slice (some ⟨b, 0, none⟩) y.size cap) := (blk_cell (show w.drew.heap[g]? = _ from hb) 1).trans rfl
  have hSD : (Builtin.unsafeSliceData_ #[39] 85 #[.slice (some ⟨b, 0, none⟩) y.size cap]).run Try.prog w.drew = .ok (.pointer (some ⟨b, 0, none⟩)) w.drew := Lib.run_unsafeSliceData_row _ _ _ _ _ _ (by omega)
  have hUS : (Builtin.unsafeString_ #[85, 3] 9 #[.pointer (some ⟨b, 0, none⟩), .int .i64 (y.size : Int)]).run Try.prog w.drew = .ok (.string y) (w.drew.freeze ⟨b, 0, none⟩ y.size) := by
    have h := Lib.run_unsafeString_row (P := Try.prog) w.drew 85 3 9 5 und85 cells5 b cells.size (by have hg' : w.drew.heap[b]? = some (.cells cells 5 (0, 0)) := hbc; simp [World.shape?, hg']) y.data.toList hne (by omega) (by omega) ?_
    · rw [hdl] at h
      exact h
    · intro j x hx
      have hj : j < y.data.toList.length := (List.getElem?_eq_some_iff.1 hx).1
      exact hown.cells (g := b) rfl j (.int .u8 x.toNat) (by
        rw [bytesOf_list]
        simp [encs, hx])
  clear hb hr hq hown hbc
  go_enter Try.func27, Try.ntmps27
  go_wp2
  have mixed : Try.prog.follows Departure.mixedOrders = true := by kernel_rfl
  go_region_o
  all_goals (go_wp2; go_ret; exact ⟨rfl, Lib.below_freeze (Below.drew (Below.refl base w)) (p := ⟨b, 0, none⟩) hbb _⟩)
end Go.Proofs.Ytnmggblhbodfgaa.Hd
/- lzw's reader, walked by hand. -/
namespace Go.Proofs.Ytnmggblhbodfgaa.Hd
open Go Go.RowKit Go.Proofs.YtnmggblhbodfgaaW.PrintWords Go.Proofs.YtnmggblhbodfgaaW.PrintLast Go.Proofs.YtnmggblhbodfgaaW.PrintMore Go.Proofs.Ytnmggblhbodfgaa.Hw Go.Proofs.Ytnmggblhbodfgaa.Com Go.Proofs.Ytnmggblhbodfgaa.P
attribute [local go_sem] max2_int min2_int max_two min_two max_three min_three max_four min_four
/-- A reader of rows at block gx. -/
structure Xr (base gx gr b room : Nat) (s : ByteArray) (v : Value) (rows : List ByteArray) (last : ByteArray) (p : Nat) (W : World) : Prop where
  hx : W.heap[gx]? = some (.cells #[v, .int .i64 (room : Int), .pointer (some ⟨gr, 0, none⟩), .string last] 60 (0, 0))
  hr : Kd.R Kd.string 9 W base (fun _ => True) v rows
  rd : RdS W gr b s p
  lx : base ≤ gx
  lr : base ≤ gr
/-- Does a row wait for its last byte? -/
def wtB (room : Nat) (rows : List ByteArray) (last : ByteArray) : Bool := decide (last.size ≠ 0 ∧ rows.length < room)
theorem emp_size (s : ByteArray) : s.toList.isEmpty = decide (s.size = 0) := by
  have h : s.toList.length = s.size := by rw [ByteArray.toList_eq, data_length]
  cases e : s.toList with
  | nil => rw [e] at h; simp at h; simp [h.symm]
  | cons a t => rw [e] at h; rw [List.length_cons] at h; exact (decide_eq_false (by omega)).symm
section
variable {base gx gr b room p : Nat} {s : ByteArray} {v : Value} {rows : List ByteArray} {last : ByteArray} {W W1 : World}
set_option maxHeartbeats 2000000 in
set_option maxRecDepth 100000 in
theorem waits_ok (h : Xr base gx gr b room s v rows last p W) : Calls Try.prog 34 #[.pointer (some ⟨gx, 0, none⟩)] W fun e w' => e = .returned (.bool (wtB room rows last)) ∧ Below W.heap.size W w' := by
  obtain ⟨A, c, rfl⟩ := Kd.R_slice h.hr
  have hc0 := (blk_cell h.hx 0).trans (rfl : _ = some (Value.slice A rows.length c))
  have hc1 := (blk_cell h.hx 1).trans (rfl : _ = some (Value.int .i64 (room : Int)))
  have hc3 := (blk_cell h.hx 3).trans (rfl : _ = some (Value.string last))
  clear h
  by_cases h0 : last.size = 0
  · have hq : last.toList.isEmpty = true := by rw [emp_size]; exact decide_eq_true h0
    have hw : wtB room rows last = false := decide_eq_false (by omega)
    rw [hw]
    clear h0 hw
    go_enter Try.func34, Try.ntmps34
    go_wp2
    go_quiet (fail)
    go_wp2
    go_ret
    exact ⟨rfl, by repeat (first | exact Below.refl _ _ | apply pw_below_drewN | apply below_drew1)⟩
  · have hq : last.toList.isEmpty = false := by rw [emp_size]; exact decide_eq_false h0
    have hw : wtB room rows last = decide (rows.length < room) := by
      unfold wtB
      by_cases h : rows.length < room
      · rw [decide_eq_true (show last.size ≠ 0 ∧ rows.length < room from ⟨h0, h⟩), decide_eq_true h]
      · rw [decide_eq_false (show ¬ (last.size ≠ 0 ∧ rows.length < room) from fun e => h e.2), decide_eq_false h]
    rw [hw]
    clear h0 hw
    go_enter Try.func34, Try.ntmps34
    go_wp2
    go_quiet (fail)
    go_wp2
    go_ret
    exact ⟨rfl, by repeat (first | exact Below.refl _ _ | apply pw_below_drewN | apply below_drew1)⟩
theorem Xr.below (h : Xr base gx gr b room s v rows last p W) (hB : Below W.heap.size W W1) : Xr base gx gr b room s v rows last p W1 := ⟨blk_below h.hx hB, Kd.R_below h.hr hB, h.rd.below hB, h.lx, h.lr⟩
end
/-- What is read: the row, the error; and then. -/
def nxt (B : List Nat) (room : Nat) (rows : List ByteArray) (last : ByteArray) (p : Nat) : (ByteArray × Int) × List ByteArray × ByteArray × Int :=
  let wt := wtB room rows last
  let t := rtake B p ((wd (rows.length + wt.toNat) : Nat) : Int)
  let x := t.1.toNat
  let rows' := if wt then rows ++ [last ++ (if x < rows.length then rows.getD x ⟨#[]⟩ else last).extract 0 1] else rows
  if t.2.1 ≠ 0 then ((⟨#[]⟩, t.2.1), rows, last, t.2.2)
  else if rows.length + wt.toNat ≤ x then ((⟨#[]⟩, 4), rows, last, t.2.2)
  else ((rows'.getD x ⟨#[]⟩, 0), rows', rows'.getD x ⟨#[]⟩, t.2.2)
end Go.Proofs.Ytnmggblhbodfgaa.Hd
/- lzw's next, walked by hand. Written by wip/tools/gen60.py. -/
namespace Go.Proofs.Ytnmggblhbodfgaa.Hd
open Go Go.RowKit Go.Proofs.YtnmggblhbodfgaaW.PrintWords Go.Proofs.YtnmggblhbodfgaaW.PrintLast Go.Proofs.YtnmggblhbodfgaaW.PrintMore Go.Proofs.Ytnmggblhbodfgaa.Hw Go.Proofs.Ytnmggblhbodfgaa.Com Go.Proofs.Ytnmggblhbodfgaa.P
attribute [local go_sem] max2_int min2_int max_two min_two max_three min_three max_four min_four
theorem kp_keep {W W1 : World} {g : Nat} (h : Kp (fun i => i = g) W W1) : Kp (fun i => i = g) W W1 := h
section
variable {base gx gr b room p p' : Nat} {s : ByteArray} {v v1 : Value} {rows rows1 : List ByteArray} {last last1 : ByteArray} {W W1 : World}
theorem RdS.blk (h : RdS W gr b s p) : ∃ cs : Array Value, W.heap[gr]? = some (.cells cs 82 (0, 0)) := by
  obtain ⟨⟨c, h1⟩, _⟩ := h
  exact ⟨_, h1⟩
theorem Xr.take (h : Xr base gx gr b room s v rows last p W) (hR : RdS W1 gr b s p') (hk : Kp (fun i => i = gr) W W1) : Xr base gx gr b room s v rows last p' W1 := by
  obtain ⟨cs, hcs⟩ := h.rd.blk
  refine ⟨hk.at_ h.hx (blk_ne h.hx hcs (by decide)), Kd.R_mono (Kp.R (Kd.R_types h.hr hcs (by decide)) hk (fun i hi _ he => hi.2 he)) (fun _ _ => trivial), hR, h.lx, h.lr⟩
theorem Xr.ne (h : Xr base gx gr b room s v rows last p W) : gx ≠ gr ∧ b ≠ gx ∧ some gx ≠ v.ownBlock ∧ some gr ≠ v.ownBlock ∧ some b ≠ v.ownBlock := by
  obtain ⟨cs, hcs⟩ := h.rd.blk
  obtain ⟨_, ⟨cb, fr, hcb⟩, hy, _⟩ := h.rd
  refine ⟨blk_ne h.hx hcs (by decide), ?_, Kd.R_ne h.hr h.hx (by decide), Kd.R_ne h.hr hcs (by decide), fun e => ?_⟩
  · rintro rfl
    rw [h.hx] at hcb
    injection hcb with hcb
    injection hcb with _ ht
    exact absurd ht (by decide)
  · obtain ⟨cs9, h9⟩ := Kd.R_typed h.hr b e.symm
    rw [h9] at hcb
    injection hcb with hcb
    injection hcb with _ ht
    exact absurd ht (by decide)
/-- A field of the reader turned: its row, or the row ahead. -/
theorem Xr.set3 (h : Xr base gx gr b room s v rows last p W) (y : ByteArray) : Xr base gx gr b room s v rows y p (W.setCell ⟨gx, 3, none⟩ (.string y)) :=
  ⟨blk_set h.hx 3 _, Kd.R_set h.hr h.hx (by decide) 3 _, h.rd.move (Below.heap_setCell _ ⟨gx, 3, none⟩ _ gr h.ne.1.symm) (Below.heap_setCell _ ⟨gx, 3, none⟩ _ b h.ne.2.1), h.lx, h.lr⟩
theorem Xr.grow (h : Xr base gx gr b room s v rows last p W) (hg : W.grownBy W1 v.ownBlock) (hr : Kd.R Kd.string 9 W1 base (fun _ => True) v1 rows1) : Xr base gx gr b room s v1 rows1 last p (W1.setCell ⟨gx, 0, none⟩ v1) := by
  have hb := blk_grown h.hx hg h.ne.2.2.1
  have hl := h.rd.lt
  refine ⟨blk_set hb 0 _, Kd.R_set hr hb (by decide) 0 _, h.rd.move ?_ ?_, h.lx, h.lr⟩
  · exact (Below.heap_setCell _ ⟨gx, 0, none⟩ _ gr h.ne.1.symm).trans (hg.block gr hl.1 h.ne.2.2.2.1)
  · exact (Below.heap_setCell _ ⟨gx, 0, none⟩ _ b h.ne.2.1).trans (hg.block b hl.2 h.ne.2.2.2.2)
end
theorem rtake_nn (B : List Nat) (p : Nat) (a : Int) : ∃ x : Nat, (rtake B p a).1 = (x : Int) ∧ x < 72057594037927936 := by
  unfold rtake
  split
  · rename_i h
    split
    · refine ⟨_, rfl, ?_⟩
      have h2 := of_decide_eq_true h
      unfold pkv
      exact Nat.lt_of_lt_of_le (Nat.mod_lt _ (Nat.two_pow_pos _)) (Nat.le_trans (Nat.pow_le_pow_right (by omega) (show a.toNat ≤ 56 by omega)) (by decide))
    · exact ⟨0, rfl, by omega⟩
  · exact ⟨0, rfl, by omega⟩
theorem conv_u64 (x : Nat) (h : x < 72057594037927936) (W : World) : (convert 52 3 (.int .u64 (x : Int))).run Try.prog W = .ok (.int .i64 (x : Int)) W := by
  have e : wrap64 (x : Int) = (x : Int) := w64 (by omega) (by omega)
  go_simp
  exact (i64_w _).trans e
theorem at_row {W : World} {base : Nat} {ad : Addr} {c x : Nat} {rows : List ByteArray} {hd : ByteArray} (h : Kd.R Kd.string 9 W base (fun _ => True) (.slice (some ad) rows.length c) rows) (hd_ : rows.getD x ⟨#[]⟩ = hd) (ht : decide (x < rows.length) = true) : W.cell? (ad.add x) = some (.string hd) := by
  obtain ⟨ad2, e, hxc⟩ := Kd.at_string (Kd.R_reads' h).2.2 (x : Int) (Int.natCast_nonneg x) (Int.ofNat_lt.2 (of_decide_eq_true ht))
  cases e
  rw [Int.toNat_natCast, rdOf_nat] at hxc
  rw [← hd_]
  exact hxc
def Snx (gx gr : Nat) (v : Value) : Nat → Prop := fun i => i = gx ∨ i = gr ∨ some i = v.ownBlock

set_option maxHeartbeats 8000000 in
set_option maxRecDepth 100000 in
theorem next_true (base gx gr b room : Nat) (s : ByteArray) (v : Value) (rows : List ByteArray) (last : ByteArray) (p : Nat) (w : World) (h : Xr base gx gr b room s v rows last p w) (hp : p ≤ 8 * s.size) (hbw : base ≤ w.heap.size)
    (h1 : 256 ≤ rows.length) (h2 : rows.length ≤ 65536) (hf : ∀ r ∈ rows, 1 ≤ r.size ∧ r.size ≤ 16777216) (hl : last.size ≤ 16777216) (hw : wtB room rows last = true) :
    Calls Try.prog 23 #[.pointer (some ⟨gx, 0, none⟩)] w fun e w' => ∃ (r : ByteArray) (er : Int), e = .returned (.tuple #[.string r, .int .i64 er]) ∧ (nxt (nb s) room rows last p).1 = (r, er) ∧ Kp (Snx gx gr v) w w' ∧
      (er = 0 → ∃ (v' : Value) (p' : Nat), (nxt (nb s) room rows last p).2.2.2 = (p' : Int) ∧ p' ≤ 8 * s.size ∧ Xr base gx gr b room s v' (nxt (nb s) room rows last p).2.1 (nxt (nb s) room rows last p).2.2.1 p' w' ∧ (∀ k, v'.ownBlock = some k → some k = v.ownBlock ∨ w.heap.size ≤ k)) := by
  obtain ⟨A, c, rfl⟩ := Kd.R_slice h.hr
  obtain ⟨n, hn⟩ : ∃ n, rows.length + 1 = n := ⟨_, rfl⟩
  have hc0 := (blk_cell h.hx 0).trans (rfl : _ = some (Value.slice A rows.length c))
  have X0 := Aside0.mk h
  have HN := Aside0.mk (show 2 ≤ n ∧ n ≤ 4294967296 by omega)
  have HP := Aside0.mk hp
  have HBW := Aside0.mk hbw
  have HR := Aside0.mk (And.intro h1 (And.intro h2 hn))
  have HF := Aside0.mk (And.intro hf hl)
  have HW := Aside0.mk hw
  have EN := Aside0.mk (show wrap64 ((rows.length : Int) + 1) = ((rows.length + 1 : Nat) : Int) from by rw [w64 (by omega) (by omega)]; omega)
  have hx0 : nxt (nb s) room rows last p = nxt (nb s) room rows last p := rfl
  obtain ⟨x, hx, hx2⟩ := rtake_nn (nb s) p ((wd n : Nat) : Int)
  obtain ⟨e1, he1⟩ : ∃ e1, (rtake (nb s) p ((wd n : Nat) : Int)).2.1 = e1 := ⟨_, rfl⟩
  have HX := Aside0.mk (And.intro hx (And.intro hx2 he1))
  have NX := Aside0.mk (show nxt (nb s) room rows last p = if e1 ≠ 0 then ((⟨#[]⟩, e1), rows, last, (rtake (nb s) p ((wd n : Nat) : Int)).2.2) else if n ≤ x then ((⟨#[]⟩, 4), rows, last, (rtake (nb s) p ((wd n : Nat) : Int)).2.2)
      else (((rows ++ [last ++ (if x < rows.length then rows.getD x ⟨#[]⟩ else last).extract 0 1]).getD x ⟨#[]⟩, 0), rows ++ [last ++ (if x < rows.length then rows.getD x ⟨#[]⟩ else last).extract 0 1], (rows ++ [last ++ (if x < rows.length then rows.getD x ⟨#[]⟩ else last).extract 0 1]).getD x ⟨#[]⟩, (rtake (nb s) p ((wd n : Nat) : Int)).2.2) from by
    unfold nxt
    simp only [hw, Bool.toNat_true, Nat.add_zero, hn, hx, he1, Int.toNat_natCast, if_true, Bool.false_eq_true, if_false])
  clear h hp hbw h1 h2 hn hf hl hw hx0 hx hx2 he1
  go_enter Try.func23, Try.ntmps23
  go_wp2_with (go_at_call 34; refine (waits_ok X0.out).mono ?_; rintro e w1 ⟨rfl, hB⟩; rw [HW.out]; have XX := Aside0.mk (X0.out.below hB); have BB := Aside0.mk hB; clear hB hc0)
  rw [EN.out, HR.out.2.2]
  refine start_ (n := 12) (S := fun w' => w'.cell? ⟨gx, 2, none⟩ = some (.pointer (some ⟨gr, 0, none⟩))) (ds := [6]) #[false, false, false, false, false, false, false, false, false, false, false, false] (by kernel_rfl) rfl rfl (((blk_cell XX.out.hx 2).trans rfl)) (fun hHeld => ?_)
  refine pure_ (i := 0) (N := some 19) (v := ?_) (a' := ?_) #[true, false, false, false, false, false, false, false, false, false, false, false] rfl rfl (by kernel_rfl) (fun _ _ _ h => h) (Or.inl ⟨by rfl, ?_⟩) ?_ ?_
  rotate_left
  · intro w'
    go_simp
    with_reducible rfl
  rotate_left
  · simp only [Act.put, List.setIfInBounds_toArray, List.set_cons_zero, List.set_cons_succ, i64_w, i32_w]
    rfl
  refine pure_ (i := 1) (N := some 20) (v := ?_) (a' := ?_) #[true, true, false, false, false, false, false, false, false, false, false, false] rfl rfl (by kernel_rfl) (fun _ _ _ h => h) (Or.inl ⟨by rfl, ?_⟩) ?_ ?_
  rotate_left
  · intro w'
    go_simp
    with_reducible rfl
  rotate_left
  · simp only [Act.put, List.setIfInBounds_toArray, List.set_cons_zero, List.set_cons_succ, i64_w, i32_w]
    rfl
  refine pure_ (i := 2) (N := some 21) (v := ?_) (a' := ?_) #[true, true, true, false, false, false, false, false, false, false, false, false] rfl rfl (by kernel_rfl) (fun _ _ _ h => h) (Or.inl ⟨by rfl, ?_⟩) ?_ ?_
  rotate_left
  · intro w'
    go_simp
    with_reducible rfl
  rotate_left
  · simp only [Act.put, List.setIfInBounds_toArray, List.set_cons_zero, List.set_cons_succ, i64_w, i32_w]
    rfl
  refine pure_ (i := 4) (N := some 23) (v := ?_) (a' := ?_) #[true, true, true, false, true, false, false, false, false, false, false, false] rfl rfl (by kernel_rfl) (fun _ _ _ h => h) (Or.inl ⟨by rfl, ?_⟩) ?_ ?_
  rotate_left
  · intro w'
    go_simp
    with_reducible rfl
  rotate_left
  · simp only [Act.put, List.setIfInBounds_toArray, List.set_cons_zero, List.set_cons_succ, i64_w, i32_w]
    rfl
  refine take_ (i := 3) (N := some 22) (v := ?_) (a' := ?_) #[true, true, true, true, true, false, false, false, false, false, false, false] rfl rfl (by kernel_rfl) (fun _ _ _ h => h) (Or.inl ⟨by rfl, ?_⟩) hHeld ?_ ?_
  rotate_left
  · intro w' s0
    go_simp
    with_reducible rfl
  rotate_left
  · simp only [Act.put, List.setIfInBounds_toArray, List.set_cons_zero, List.set_cons_succ, i64_w, i32_w]
    rfl
  refine one_ (i := 5) (N := some 24) #[true, true, true, true, true, true, false, false, false, false, false, false] rfl rfl (by kernel_rfl) (by decide) (fun K hK => ?_)
  refine goes_ Try.func32 (by kernel_rfl) rfl #[.int .i64 (n : Int)] (by rfl) rfl rfl (by simp only [List.map_toArray, List.map_cons, List.map_nil]; rfl) ?_
  with_reducible refine (width_at n HN.out.1 HN.out.2 w1.drew).mono ?_
  rintro e w2 ⟨rfl, hb⟩
  refine ⟨_, rfl, ?_⟩
  have X2 := Aside0.mk ((XX.out.below (below_drew (Below.refl w1.heap.size w1))).below hb)
  have B2 := Aside0.mk (below_step (below_step BB.out (below_drew (Below.refl w1.heap.size w1))) hb)
  clear hb
  refine hK.out _ _ (((blk_cell X2.out.hx 2).trans rfl)) (fun hHeld => ?_)
  clear hK K
  refine norm_ (a' := ?_) ?_ ?_
  rotate_left
  · show Act.put _ (some 24) _ = _
    simp only [Act.put, List.setIfInBounds_toArray, List.set_cons_zero, List.set_cons_succ, i64_w, i32_w]
    rfl
  refine last_ (i := 6) (N := some 25) #[true, true, true, true, true, true, true, false, false, false, false, false] rfl rfl (by kernel_rfl) (by decide) (fun K hK => ?_)
  refine goes_ Try.func35 (by kernel_rfl) rfl #[.pointer (some ⟨gr, 0, none⟩), .int .i64 ((wd n : Nat) : Int)] (by rfl) rfl rfl (by simp only [List.map_toArray, List.map_cons, List.map_nil]; rfl) ?_
  with_reducible refine (Take_rd (W := w2) ((wd n : Nat) : Int) X2.out.rd HP.out).mono ?_
  rintro e w3 ⟨p3, rfl, hp3, hp4, hR3, hK3⟩
  refine ⟨_, rfl, ?_⟩
  have X3 := Aside0.mk (X2.out.take hR3 hK3)
  have K3 := Aside0.mk (show Kp (fun i => i = gr) w w3 from (Kp.below B2.out).trans (kp_keep hK3))
  have P3 := Aside0.mk (And.intro hp3 hp4)
  clear hR3 hK3 hp3 hp4
  refine hK.out _ _ ?_
  clear hK K
  refine norm_ (a' := ?_) ?_ ?_
  rotate_left
  · show Act.put _ (some 25) _ = _
    simp only [Act.put, List.setIfInBounds_toArray, List.set_cons_zero, List.set_cons_succ, i64_w, i32_w]
    rfl
  refine pure_ (i := 7) (N := some 18) (v := ?_) (a' := ?_) #[true, true, true, true, true, true, true, true, false, false, false, false] rfl rfl (by kernel_rfl) (fun _ _ _ h => h) (Or.inl ⟨by rfl, ?_⟩) ?_ ?_
  rotate_left
  · intro w'
    go_simp
    with_reducible rfl
  rotate_left
  · simp only [Act.put, List.setIfInBounds_toArray, List.set_cons_zero, List.set_cons_succ, i64_w, i32_w]
    rfl
  refine pure_ (i := 8) (N := some 26) (v := ?_) (a' := ?_) #[true, true, true, true, true, true, true, true, true, false, false, false] rfl rfl (by kernel_rfl) (fun _ _ _ h => h) (Or.inl ⟨by rfl, ?_⟩) ?_ ?_
  rotate_left
  · intro w'
    go_simp
    with_reducible rfl
  rotate_left
  · simp only [Act.put, List.setIfInBounds_toArray, List.set_cons_zero, List.set_cons_succ, i64_w, i32_w]
    rfl
  refine pure_ (i := 9) (N := some 27) (v := ?_) (a' := ?_) #[true, true, true, true, true, true, true, true, true, true, false, false] rfl rfl (by kernel_rfl) (fun _ _ _ h => h) (Or.inl ⟨by rfl, ?_⟩) ?_ ?_
  rotate_left
  · intro w'
    go_simp
    with_reducible rfl
  rotate_left
  · simp only [Act.put, List.setIfInBounds_toArray, List.set_cons_zero, List.set_cons_succ, i64_w, i32_w]
    rfl
  refine pure_ (i := 10) (N := some 5) (v := ?_) (a' := ?_) #[true, true, true, true, true, true, true, true, true, true, true, false] rfl rfl (by kernel_rfl) (fun _ _ _ h => h) (Or.inl ⟨by rfl, ?_⟩) ?_ ?_
  rotate_left
  · intro w'
    go_simp
    with_reducible rfl
  rotate_left
  · simp only [Act.put, List.setIfInBounds_toArray, List.set_cons_zero, List.set_cons_succ, i64_w, i32_w]
    rfl
  refine pure_ (i := 11) (N := some 6) (v := ?_) (a' := ?_) #[true, true, true, true, true, true, true, true, true, true, true, true] rfl rfl (by kernel_rfl) (fun _ _ _ h => h) (Or.inl ⟨by rfl, ?_⟩) ?_ ?_
  rotate_left
  · intro w'
    go_simp
    with_reducible rfl
  rotate_left
  · simp only [Act.put, List.setIfInBounds_toArray, List.set_cons_zero, List.set_cons_succ, i64_w, i32_w]
    rfl
  refine done_ (by kernel_rfl) ?_
  clear hHeld
  rw [HX.out.1, HX.out.2.2]
  by_cases he : e1 = 0
  case neg =>
    have t1 : (e1 != 0) = true := bne_iff_ne.2 he
    have HE := Aside0.mk he
    clear he
    go_wp2
    go_ret2
    exact ⟨_, _, rfl, by rw [NX.out, if_pos HE.out], K3.out.imp (fun _ _ h => .inr (.inl h)), fun h => absurd h HE.out⟩
  obtain rfl := he
  have CV := Aside0.mk (conv_u64 x HX.out.2.1)
  by_cases hx : n ≤ x
  · have t2 : decide ((x : Int) ≥ (n : Int)) = true := decide_eq_true (Int.ofNat_le.2 hx)
    have t3 : decide ((n : Int) ≤ (x : Int)) = true := decide_eq_true (Int.ofNat_le.2 hx)
    have t4 : decide (n ≤ x) = true := decide_eq_true hx
    have HE := Aside0.mk hx
    clear hx
    go_wp2_with ((with_reducible refine gate_dst (N := 32) rfl ?_); refine val_event rfl (conv_run rfl rfl (CV.out _)) ?_)
    go_ret2
    exact ⟨_, _, rfl, by rw [NX.out, if_neg (by simp), if_pos HE.out], K3.out.imp (fun _ _ h => .inr (.inl h)), fun h => absurd h (by decide)⟩
  have t2 : decide ((x : Int) ≥ (n : Int)) = false := decide_eq_false (fun h => hx (Int.ofNat_le.1 h))
  have t3 : decide ((n : Int) ≤ (x : Int)) = false := decide_eq_false (fun h => hx (Int.ofNat_le.1 h))
  have t4 : decide (n ≤ x) = false := decide_eq_false hx
  have hc0 := (blk_cell X3.out.hx 0).trans (rfl : _ = some (Value.slice A rows.length c))
  have hc3 := (blk_cell X3.out.hx 3).trans (rfl : _ = some (Value.string last))
  have p1 : (0 ≤ (x : Int)) = True := eq_true (Int.natCast_nonneg x)
  have N3 := Aside0.mk (show nxt (nb s) room rows last p = (((rows ++ [last ++ (if x < rows.length then rows.getD x ⟨#[]⟩ else last).extract 0 1]).getD x ⟨#[]⟩, 0), rows ++ [last ++ (if x < rows.length then rows.getD x ⟨#[]⟩ else last).extract 0 1], (rows ++ [last ++ (if x < rows.length then rows.getD x ⟨#[]⟩ else last).extract 0 1]).getD x ⟨#[]⟩, (rtake (nb s) p ((wd n : Nat) : Int)).2.2) from by rw [NX.out, if_neg (by simp), if_neg hx])
  clear NX
  have HLT := Aside0.mk (show x ≤ rows.length by have := HR.out.2.2; omega)
  by_cases hlt : x < rows.length
  · have t5 : decide ((x : Int) < (rows.length : Int)) = true := decide_eq_true (Int.ofNat_lt.2 hlt)
    have t6 : decide (x < rows.length) = true := decide_eq_true hlt
    have p2 : ((x : Int) < (rows.length : Int)) = True := eq_true (Int.ofNat_lt.2 hlt)
    obtain ⟨ad, rfl, hxc⟩ := Kd.at_string (Kd.R_reads' X3.out.hr).2.2 (x : Int) (Int.natCast_nonneg x) (Int.ofNat_lt.2 hlt)
    rw [Int.toNat_natCast, rdOf_nat] at hxc
    obtain ⟨hd, hhd⟩ : ∃ hd, rows.getD x ByteArray.empty = hd := ⟨_, rfl⟩
    rw [hhd] at hxc
    have hsz := HF.out.1 hd (by rw [← hhd, List.getD_eq_getElem?_getD, List.getElem?_eq_getElem hlt]; exact List.getElem_mem hlt)
    have hhd2 : rows.getD x ⟨#[]⟩ = hd := hhd
    rw [if_pos hlt, hhd2] at N3
    have q1 : ((1 : Int) ≤ (hd.size : Int)) = True := eq_true (by omega)
    have q2 : decide (1 ≤ hd.size) = true := decide_eq_true hsz.1
    have q3 : (9223372036854775807 < last.size + min 1 hd.size) = False := eq_false (by have := HF.out.2; omega)
    clear hx hlt hhd hhd2 hsz
    go_wp2_with (first
      | ((with_reducible refine gate_dst (N := 32) rfl ?_); refine val_event rfl (conv_run rfl rfl (CV.out _)) ?_)
      | (go_at_call 34; refine (waits_ok X3.out).mono ?_; rintro e w4 ⟨rfl, hB⟩; rw [HW.out]; have X4 := Aside0.mk (X3.out.below hB); have B4 := Aside0.mk hB; have X5 := Aside0.mk ((X3.out.below hB).below (below_drew (Below.refl w4.heap.size w4))); clear hB hc0 hc3))
    have BZ := Aside0.mk (show base ≤ w4.drew.heap.size from by have h1 := HBW.out; have h2 := K3.out.size; have h3 := B4.out.size; exact Nat.le_trans h1 (Nat.le_trans h2 h3))
    refine start_ (n := 17) (S := fun w' => w'.cell? ⟨gx, 0, none⟩ = some (.slice (some ad) rows.length c) ∧ w'.cell? ⟨gx, 3, none⟩ = some (.string last)) (ds := [16]) #[false, false, false, false, false, false, false, false, false, false, false, false, false, false, false, false, false] (by kernel_rfl) rfl rfl ⟨((blk_cell X5.out.hx 0).trans rfl), ((blk_cell X5.out.hx 3).trans rfl)⟩ (fun hHeld => ?_)
    refine pure_ (i := 0) (N := some 56) (v := ?_) (a' := ?_) #[true, false, false, false, false, false, false, false, false, false, false, false, false, false, false, false, false] rfl rfl (by kernel_rfl) (fun _ _ _ h => h) (Or.inl ⟨by rfl, ?_⟩) ?_ ?_
    rotate_left
    · intro w'
      go_simp
      with_reducible rfl
    rotate_left
    · simp only [Act.put, List.setIfInBounds_toArray, List.set_cons_zero, List.set_cons_succ, i64_w, i32_w]
      rfl
    refine pure_ (i := 1) (N := some 57) (v := ?_) (a' := ?_) #[true, true, false, false, false, false, false, false, false, false, false, false, false, false, false, false, false] rfl rfl (by kernel_rfl) (fun _ _ _ h => h) (Or.inl ⟨by rfl, ?_⟩) ?_ ?_
    rotate_left
    · intro w'
      go_simp
      with_reducible rfl
    rotate_left
    · simp only [Act.put, List.setIfInBounds_toArray, List.set_cons_zero, List.set_cons_succ, i64_w, i32_w]
      rfl
    refine pure_ (i := 2) (N := some 58) (v := ?_) (a' := ?_) #[true, true, true, false, false, false, false, false, false, false, false, false, false, false, false, false, false] rfl rfl (by kernel_rfl) (fun _ _ _ h => h) (Or.inl ⟨by rfl, ?_⟩) ?_ ?_
    rotate_left
    · intro w'
      go_simp
      with_reducible rfl
    rotate_left
    · simp only [Act.put, List.setIfInBounds_toArray, List.set_cons_zero, List.set_cons_succ, i64_w, i32_w]
      rfl
    refine pure_ (i := 3) (N := some 59) (v := ?_) (a' := ?_) #[true, true, true, true, false, false, false, false, false, false, false, false, false, false, false, false, false] rfl rfl (by kernel_rfl) (fun _ _ _ h => h) (Or.inl ⟨by rfl, ?_⟩) ?_ ?_
    rotate_left
    · intro w'
      go_simp
      with_reducible rfl
    rotate_left
    · simp only [Act.put, List.setIfInBounds_toArray, List.set_cons_zero, List.set_cons_succ, i64_w, i32_w]
      rfl
    refine pure_ (i := 5) (N := some 61) (v := ?_) (a' := ?_) #[true, true, true, true, false, true, false, false, false, false, false, false, false, false, false, false, false] rfl rfl (by kernel_rfl) (fun _ _ _ h => h) (Or.inl ⟨by rfl, ?_⟩) ?_ ?_
    rotate_left
    · intro w'
      go_simp
      with_reducible rfl
    rotate_left
    · simp only [Act.put, List.setIfInBounds_toArray, List.set_cons_zero, List.set_cons_succ, i64_w, i32_w]
      rfl
    refine pure_ (i := 6) (N := some 62) (v := ?_) (a' := ?_) #[true, true, true, true, false, true, true, false, false, false, false, false, false, false, false, false, false] rfl rfl (by kernel_rfl) (fun _ _ _ h => h) (Or.inl ⟨by rfl, ?_⟩) ?_ ?_
    rotate_left
    · intro w'
      go_simp
      with_reducible rfl
    rotate_left
    · simp only [Act.put, List.setIfInBounds_toArray, List.set_cons_zero, List.set_cons_succ, i64_w, i32_w]
      rfl
    refine pure_ (i := 7) (N := some 63) (v := ?_) (a' := ?_) #[true, true, true, true, false, true, true, true, false, false, false, false, false, false, false, false, false] rfl rfl (by kernel_rfl) (fun _ _ _ h => h) (Or.inl ⟨by rfl, ?_⟩) ?_ ?_
    rotate_left
    · intro w'
      go_simp
      with_reducible rfl
    rotate_left
    · simp only [Act.put, List.setIfInBounds_toArray, List.set_cons_zero, List.set_cons_succ, i64_w, i32_w]
      rfl
    refine pure_ (i := 9) (N := some 65) (v := ?_) (a' := ?_) #[true, true, true, true, false, true, true, true, false, true, false, false, false, false, false, false, false] rfl rfl (by kernel_rfl) (fun _ _ _ h => h) (Or.inl ⟨by rfl, ?_⟩) ?_ ?_
    rotate_left
    · intro w'
      go_simp
      with_reducible rfl
    rotate_left
    · simp only [Act.put, List.setIfInBounds_toArray, List.set_cons_zero, List.set_cons_succ, i64_w, i32_w]
      rfl
    refine pure_ (i := 10) (N := some 66) (v := ?_) (a' := ?_) #[true, true, true, true, false, true, true, true, false, true, true, false, false, false, false, false, false] rfl rfl (by kernel_rfl) (fun _ _ _ h => h) (Or.inl ⟨by rfl, ?_⟩) ?_ ?_
    rotate_left
    · intro w'
      go_simp
      with_reducible rfl
    rotate_left
    · simp only [Act.put, List.setIfInBounds_toArray, List.set_cons_zero, List.set_cons_succ, i64_w, i32_w]
      rfl
    refine take_ (i := 4) (N := some 60) (v := ?_) (a' := ?_) #[true, true, true, true, true, true, true, true, false, true, true, false, false, false, false, false, false] rfl rfl (by kernel_rfl) (fun _ _ _ h => h) (Or.inl ⟨by rfl, ?_⟩) hHeld ?_ ?_
    rotate_left
    · rintro w' ⟨s0, s1⟩
      go_simp
      with_reducible rfl
    rotate_left
    · simp only [Act.put, List.setIfInBounds_toArray, List.set_cons_zero, List.set_cons_succ, i64_w, i32_w]
      rfl
    refine take_ (i := 8) (N := some 64) (v := ?_) (a' := ?_) #[true, true, true, true, true, true, true, true, true, true, true, false, false, false, false, false, false] rfl rfl (by kernel_rfl) (fun _ _ _ h => h) (Or.inl ⟨by rfl, ?_⟩) hHeld ?_ ?_
    rotate_left
    · rintro w' ⟨s0, s1⟩
      go_simp
      with_reducible rfl
    rotate_left
    · simp only [Act.put, List.setIfInBounds_toArray, List.set_cons_zero, List.set_cons_succ, i64_w, i32_w]
      rfl
    refine pure_ (i := 11) (N := some 67) (v := ?_) (a' := ?_) #[true, true, true, true, true, true, true, true, true, true, true, true, false, false, false, false, false] rfl rfl (by kernel_rfl) (fun _ _ _ h => h) (Or.inl ⟨by rfl, ?_⟩) ?_ ?_
    rotate_left
    · intro w'
      go_simp
      with_reducible rfl
    rotate_left
    · simp only [Act.put, List.setIfInBounds_toArray, List.set_cons_zero, List.set_cons_succ, i64_w, i32_w]
      rfl
    refine one_ (i := 12) (N := some 68) #[true, true, true, true, true, true, true, true, true, true, true, true, true, false, false, false, false] rfl rfl (by kernel_rfl) (by decide) (fun K hK => ?_)
    refine value_ (w1 := ?_) (v := ?_) (by rfl) rfl ?_ ?_
    rotate_left 2
    · go_simp
      constructor
      · rfl
      · rfl
    have X6 := Aside0.mk (X5.out.below (below_alloc (Below.refl _ _) (.cells #[.string (last ++ hd.extract 0 1)] 9 (0, 0))))
    refine hK.out _ _ ⟨((blk_cell X6.out.hx 0).trans rfl), ((blk_cell X6.out.hx 3).trans rfl)⟩ (fun hHeld => ?_)
    clear hK K
    refine norm_ (a' := ?_) ?_ ?_
    rotate_left
    · show Act.put _ (some 68) _ = _
      simp only [Act.put, List.setIfInBounds_toArray, List.set_cons_zero, List.set_cons_succ, i64_w, i32_w]
      rfl
    refine one_ (i := 13) (N := some 69) #[true, true, true, true, true, true, true, true, true, true, true, true, true, true, false, false, false] rfl rfl (by kernel_rfl) (by decide) (fun K hK => ?_)
    refine Kd.R_append_step Kd.string (w0 := w4.drew) (W := w4.drew) base (by rfl) (.tmp 60) (.tmp 68) 46 9 (.string ⟨#[]⟩) 16 rfl Try.underlying46 info9 rfl (by decide) (by omega) (.slice (some ad) rows.length c) rows (last ++ hd.extract 0 1) [.string (last ++ hd.extract 0 1)] (fun _ => True) (fun _ => False) rfl rfl rfl (fun _ hk => hk.elim) (fun _ _ => trivial) X5.out.hr (Below.refl _ _) BZ.out (by have := HR.out; omega) ?_
    intro v7 w7 ho7 hb7 hg7_ ha7
    obtain ⟨rows7, hrows7⟩ : ∃ l, rows ++ [(last ++ hd.extract 0 1)] = l := ⟨_, rfl⟩
    rw [hrows7] at ho7
    obtain ⟨A7, c7, rfl⟩ := Kd.R_slice ho7
    have L7 := Aside0.mk hrows7
    clear hrows7
    have O7 := Aside0.mk ho7
    have G7 := Aside0.mk (show w4.drew.grownBy w7 (Value.slice (some ad) rows.length c).ownBlock from ⟨hg7_.os, hg7_.tape, hg7_.output, hg7_.size, hg7_.block⟩)
    have X7 := Aside0.mk (blk_grown X5.out.hx G7.out (Kd.R_ne X5.out.hr X5.out.hx (by decide)))
    have H7 := Aside0.mk ha7
    clear ho7 hb7 hg7_ ha7
    refine hK.out _ _ ⟨((blk_cell X7.out 0).trans rfl), ((blk_cell X7.out 3).trans rfl)⟩ (fun hHeld => ?_)
    clear hK K
    refine norm_ (a' := ?_) ?_ ?_
    rotate_left
    · show Act.put _ (some 69) _ = _
      simp only [Act.put, List.setIfInBounds_toArray, List.set_cons_zero, List.set_cons_succ, i64_w, i32_w]
      rfl
    refine pure_ (i := 14) (N := some 70) (v := ?_) (a' := ?_) #[true, true, true, true, true, true, true, true, true, true, true, true, true, true, true, false, false] rfl rfl (by kernel_rfl) (fun _ _ _ h => h) (Or.inl ⟨by rfl, ?_⟩) ?_ ?_
    rotate_left
    · intro w'
      go_simp
      with_reducible rfl
    rotate_left
    · simp only [Act.put, List.setIfInBounds_toArray, List.set_cons_zero, List.set_cons_succ, i64_w, i32_w]
      rfl
    refine pure_ (i := 15) (N := some 71) (v := ?_) (a' := ?_) #[true, true, true, true, true, true, true, true, true, true, true, true, true, true, true, true, false] rfl rfl (by kernel_rfl) (fun _ _ _ h => h) (Or.inl ⟨by rfl, ?_⟩) ?_ ?_
    rotate_left
    · intro w'
      go_simp
      with_reducible rfl
    rotate_left
    · simp only [Act.put, List.setIfInBounds_toArray, List.set_cons_zero, List.set_cons_succ, i64_w, i32_w]
      rfl
    refine last_ (i := 16) (N := none) #[true, true, true, true, true, true, true, true, true, true, true, true, true, true, true, true, true] rfl rfl (by kernel_rfl) (by decide) (fun K hK => ?_)
    have hfz := blk_frozen X7.out 0
    have hcz := (blk_cell X7.out 0).trans (rfl : _ = some (Value.slice (some ad) rows.length c))
    refine skip_ (w1 := ?_) (by rfl) rfl ?_ ?_
    rotate_left
    · go_simp
      rfl
    refine hK.out _ _ ?_
    clear hK K
    refine done_ (by kernel_rfl) ?_
    clear hHeld
    have X8 := Aside0.mk (X5.out.grow G7.out O7.out)
    have K8 := Aside0.mk (show Kp (Snx gx gr (Value.slice (some ad) rows.length c)) w (w7.setCell ⟨gx, 0, none⟩ (.slice A7 rows7.length c7)) from
      (((K3.out.imp (S' := Snx gx gr (Value.slice (some ad) rows.length c)) (fun _ _ h => .inr (.inl h))).trans (Kp.below (below_step B4.out (below_drew (Below.refl w4.heap.size w4))))).trans (Kp.grown G7.out (fun k hk => .inr (.inr hk.symm)))).set (p := ⟨gx, 0, none⟩) (.inl rfl) _)
    have HL7 := Aside0.mk (show x < rows7.length from by rw [← L7.out, List.length_append, List.length_singleton]; have := HX.out; have := HR.out; have := HLT.out; omega)
    obtain ⟨w8, hw8⟩ : ∃ w8, w7.setCell ⟨gx, 0, none⟩ (.slice A7 rows7.length c7) = w8 := ⟨_, rfl⟩
    rw [hw8] at X8 K8
    rw [hw8]
    clear hw8 X3 X4 X5 X6 X7
    obtain ⟨ad7, rfl, hx7⟩ := Kd.at_string (Kd.R_reads' X8.out.hr).2.2 (x : Int) (Int.natCast_nonneg x) (Int.ofNat_lt.2 HL7.out)
    rw [Int.toNat_natCast, rdOf_nat] at hx7
    obtain ⟨y, hy⟩ : ∃ y, rows7.getD x ByteArray.empty = y := ⟨_, rfl⟩
    rw [hy] at hx7
    have HY := Aside0.mk (show rows7.getD x ⟨#[]⟩ = y from hy)
    have hc0 := (blk_cell X8.out.hx 0).trans (rfl : _ = some (Value.slice (some ad7) rows7.length c7))
    have hf3 := blk_frozen X8.out.hx 3
    have hc3 := (blk_cell X8.out.hx 3).trans (rfl : _ = some (Value.string last))
    have p4 : ((x : Int) < (rows7.length : Int)) = True := eq_true (Int.ofNat_lt.2 HL7.out)
    clear hy
    go_wp2
    go_ret2
    rw [N3.out, L7.out, HY.out]
    exact ⟨_, _, rfl, rfl, K8.out.set (p := ⟨gx, 3, none⟩) (.inl rfl) _, fun _ => ⟨_, p3, P3.out.1, P3.out.2, X8.out.set3 _, fun k hk => by
      rcases H7.out with h | ⟨bb, h, hb⟩
      · left; rw [← hk]; exact h
      · right
        have hk2 : some bb = some k := h.symm.trans hk
        have h3 := Option.some.inj hk2
        have h4 := K3.out.size
        have h5 := B4.out.size
        have h6 : w4.heap.size ≤ bb := hb
        omega⟩⟩
  · have t5 : decide ((x : Int) < (rows.length : Int)) = false := decide_eq_false (fun h => hlt (Int.ofNat_lt.1 h))
    have t6 : decide (x < rows.length) = false := decide_eq_false hlt
    rw [if_neg hlt] at N3
    have hsz : 1 ≤ last.size := by have h := HW.out; unfold wtB at h; have := (of_decide_eq_true h).1; omega
    have q1 : ((1 : Int) ≤ (last.size : Int)) = True := eq_true (by omega)
    have q2 : decide (1 ≤ last.size) = true := decide_eq_true hsz
    have q3 : (9223372036854775807 < last.size + min 1 last.size) = False := eq_false (by have := HF.out.2; omega)
    clear hx hlt hsz
    go_wp2_with (first
      | ((with_reducible refine gate_dst (N := 32) rfl ?_); refine val_event rfl (conv_run rfl rfl (CV.out _)) ?_)
      | (go_at_call 34; refine (waits_ok X3.out).mono ?_; rintro e w4 ⟨rfl, hB⟩; rw [HW.out]; have X4 := Aside0.mk (X3.out.below hB); have B4 := Aside0.mk hB; have X5 := Aside0.mk ((X3.out.below hB).below (below_drew (Below.refl w4.heap.size w4))); clear hB hc0 hc3))
    have BZ := Aside0.mk (show base ≤ w4.drew.heap.size from by have h1 := HBW.out; have h2 := K3.out.size; have h3 := B4.out.size; exact Nat.le_trans h1 (Nat.le_trans h2 h3))
    refine start_ (n := 17) (S := fun w' => w'.cell? ⟨gx, 0, none⟩ = some (.slice A rows.length c) ∧ w'.cell? ⟨gx, 3, none⟩ = some (.string last)) (ds := [16]) #[false, false, false, false, false, false, false, false, false, false, false, false, false, false, false, false, false] (by kernel_rfl) rfl rfl ⟨((blk_cell X5.out.hx 0).trans rfl), ((blk_cell X5.out.hx 3).trans rfl)⟩ (fun hHeld => ?_)
    refine pure_ (i := 0) (N := some 56) (v := ?_) (a' := ?_) #[true, false, false, false, false, false, false, false, false, false, false, false, false, false, false, false, false] rfl rfl (by kernel_rfl) (fun _ _ _ h => h) (Or.inl ⟨by rfl, ?_⟩) ?_ ?_
    rotate_left
    · intro w'
      go_simp
      with_reducible rfl
    rotate_left
    · simp only [Act.put, List.setIfInBounds_toArray, List.set_cons_zero, List.set_cons_succ, i64_w, i32_w]
      rfl
    refine pure_ (i := 1) (N := some 57) (v := ?_) (a' := ?_) #[true, true, false, false, false, false, false, false, false, false, false, false, false, false, false, false, false] rfl rfl (by kernel_rfl) (fun _ _ _ h => h) (Or.inl ⟨by rfl, ?_⟩) ?_ ?_
    rotate_left
    · intro w'
      go_simp
      with_reducible rfl
    rotate_left
    · simp only [Act.put, List.setIfInBounds_toArray, List.set_cons_zero, List.set_cons_succ, i64_w, i32_w]
      rfl
    refine pure_ (i := 2) (N := some 58) (v := ?_) (a' := ?_) #[true, true, true, false, false, false, false, false, false, false, false, false, false, false, false, false, false] rfl rfl (by kernel_rfl) (fun _ _ _ h => h) (Or.inl ⟨by rfl, ?_⟩) ?_ ?_
    rotate_left
    · intro w'
      go_simp
      with_reducible rfl
    rotate_left
    · simp only [Act.put, List.setIfInBounds_toArray, List.set_cons_zero, List.set_cons_succ, i64_w, i32_w]
      rfl
    refine pure_ (i := 3) (N := some 59) (v := ?_) (a' := ?_) #[true, true, true, true, false, false, false, false, false, false, false, false, false, false, false, false, false] rfl rfl (by kernel_rfl) (fun _ _ _ h => h) (Or.inl ⟨by rfl, ?_⟩) ?_ ?_
    rotate_left
    · intro w'
      go_simp
      with_reducible rfl
    rotate_left
    · simp only [Act.put, List.setIfInBounds_toArray, List.set_cons_zero, List.set_cons_succ, i64_w, i32_w]
      rfl
    refine pure_ (i := 5) (N := some 61) (v := ?_) (a' := ?_) #[true, true, true, true, false, true, false, false, false, false, false, false, false, false, false, false, false] rfl rfl (by kernel_rfl) (fun _ _ _ h => h) (Or.inl ⟨by rfl, ?_⟩) ?_ ?_
    rotate_left
    · intro w'
      go_simp
      with_reducible rfl
    rotate_left
    · simp only [Act.put, List.setIfInBounds_toArray, List.set_cons_zero, List.set_cons_succ, i64_w, i32_w]
      rfl
    refine pure_ (i := 6) (N := some 62) (v := ?_) (a' := ?_) #[true, true, true, true, false, true, true, false, false, false, false, false, false, false, false, false, false] rfl rfl (by kernel_rfl) (fun _ _ _ h => h) (Or.inl ⟨by rfl, ?_⟩) ?_ ?_
    rotate_left
    · intro w'
      go_simp
      with_reducible rfl
    rotate_left
    · simp only [Act.put, List.setIfInBounds_toArray, List.set_cons_zero, List.set_cons_succ, i64_w, i32_w]
      rfl
    refine pure_ (i := 7) (N := some 63) (v := ?_) (a' := ?_) #[true, true, true, true, false, true, true, true, false, false, false, false, false, false, false, false, false] rfl rfl (by kernel_rfl) (fun _ _ _ h => h) (Or.inl ⟨by rfl, ?_⟩) ?_ ?_
    rotate_left
    · intro w'
      go_simp
      with_reducible rfl
    rotate_left
    · simp only [Act.put, List.setIfInBounds_toArray, List.set_cons_zero, List.set_cons_succ, i64_w, i32_w]
      rfl
    refine pure_ (i := 9) (N := some 65) (v := ?_) (a' := ?_) #[true, true, true, true, false, true, true, true, false, true, false, false, false, false, false, false, false] rfl rfl (by kernel_rfl) (fun _ _ _ h => h) (Or.inl ⟨by rfl, ?_⟩) ?_ ?_
    rotate_left
    · intro w'
      go_simp
      with_reducible rfl
    rotate_left
    · simp only [Act.put, List.setIfInBounds_toArray, List.set_cons_zero, List.set_cons_succ, i64_w, i32_w]
      rfl
    refine pure_ (i := 10) (N := some 66) (v := ?_) (a' := ?_) #[true, true, true, true, false, true, true, true, false, true, true, false, false, false, false, false, false] rfl rfl (by kernel_rfl) (fun _ _ _ h => h) (Or.inl ⟨by rfl, ?_⟩) ?_ ?_
    rotate_left
    · intro w'
      go_simp
      with_reducible rfl
    rotate_left
    · simp only [Act.put, List.setIfInBounds_toArray, List.set_cons_zero, List.set_cons_succ, i64_w, i32_w]
      rfl
    refine take_ (i := 4) (N := some 60) (v := ?_) (a' := ?_) #[true, true, true, true, true, true, true, true, false, true, true, false, false, false, false, false, false] rfl rfl (by kernel_rfl) (fun _ _ _ h => h) (Or.inl ⟨by rfl, ?_⟩) hHeld ?_ ?_
    rotate_left
    · rintro w' ⟨s0, s1⟩
      go_simp
      with_reducible rfl
    rotate_left
    · simp only [Act.put, List.setIfInBounds_toArray, List.set_cons_zero, List.set_cons_succ, i64_w, i32_w]
      rfl
    refine take_ (i := 8) (N := some 64) (v := ?_) (a' := ?_) #[true, true, true, true, true, true, true, true, true, true, true, false, false, false, false, false, false] rfl rfl (by kernel_rfl) (fun _ _ _ h => h) (Or.inl ⟨by rfl, ?_⟩) hHeld ?_ ?_
    rotate_left
    · rintro w' ⟨s0, s1⟩
      go_simp
      with_reducible rfl
    rotate_left
    · simp only [Act.put, List.setIfInBounds_toArray, List.set_cons_zero, List.set_cons_succ, i64_w, i32_w]
      rfl
    refine pure_ (i := 11) (N := some 67) (v := ?_) (a' := ?_) #[true, true, true, true, true, true, true, true, true, true, true, true, false, false, false, false, false] rfl rfl (by kernel_rfl) (fun _ _ _ h => h) (Or.inl ⟨by rfl, ?_⟩) ?_ ?_
    rotate_left
    · intro w'
      go_simp
      with_reducible rfl
    rotate_left
    · simp only [Act.put, List.setIfInBounds_toArray, List.set_cons_zero, List.set_cons_succ, i64_w, i32_w]
      rfl
    refine one_ (i := 12) (N := some 68) #[true, true, true, true, true, true, true, true, true, true, true, true, true, false, false, false, false] rfl rfl (by kernel_rfl) (by decide) (fun K hK => ?_)
    refine value_ (w1 := ?_) (v := ?_) (by rfl) rfl ?_ ?_
    rotate_left 2
    · go_simp
      constructor
      · rfl
      · rfl
    have X6 := Aside0.mk (X5.out.below (below_alloc (Below.refl _ _) (.cells #[.string (last ++ last.extract 0 1)] 9 (0, 0))))
    refine hK.out _ _ ⟨((blk_cell X6.out.hx 0).trans rfl), ((blk_cell X6.out.hx 3).trans rfl)⟩ (fun hHeld => ?_)
    clear hK K
    refine norm_ (a' := ?_) ?_ ?_
    rotate_left
    · show Act.put _ (some 68) _ = _
      simp only [Act.put, List.setIfInBounds_toArray, List.set_cons_zero, List.set_cons_succ, i64_w, i32_w]
      rfl
    refine one_ (i := 13) (N := some 69) #[true, true, true, true, true, true, true, true, true, true, true, true, true, true, false, false, false] rfl rfl (by kernel_rfl) (by decide) (fun K hK => ?_)
    refine Kd.R_append_step Kd.string (w0 := w4.drew) (W := w4.drew) base (by rfl) (.tmp 60) (.tmp 68) 46 9 (.string ⟨#[]⟩) 16 rfl Try.underlying46 info9 rfl (by decide) (by omega) (.slice A rows.length c) rows (last ++ last.extract 0 1) [.string (last ++ last.extract 0 1)] (fun _ => True) (fun _ => False) rfl rfl rfl (fun _ hk => hk.elim) (fun _ _ => trivial) X5.out.hr (Below.refl _ _) BZ.out (by have := HR.out; omega) ?_
    intro v7 w7 ho7 hb7 hg7_ ha7
    obtain ⟨rows7, hrows7⟩ : ∃ l, rows ++ [(last ++ last.extract 0 1)] = l := ⟨_, rfl⟩
    rw [hrows7] at ho7
    obtain ⟨A7, c7, rfl⟩ := Kd.R_slice ho7
    have L7 := Aside0.mk hrows7
    clear hrows7
    have O7 := Aside0.mk ho7
    have G7 := Aside0.mk (show w4.drew.grownBy w7 (Value.slice A rows.length c).ownBlock from ⟨hg7_.os, hg7_.tape, hg7_.output, hg7_.size, hg7_.block⟩)
    have X7 := Aside0.mk (blk_grown X5.out.hx G7.out (Kd.R_ne X5.out.hr X5.out.hx (by decide)))
    have H7 := Aside0.mk ha7
    clear ho7 hb7 hg7_ ha7
    refine hK.out _ _ ⟨((blk_cell X7.out 0).trans rfl), ((blk_cell X7.out 3).trans rfl)⟩ (fun hHeld => ?_)
    clear hK K
    refine norm_ (a' := ?_) ?_ ?_
    rotate_left
    · show Act.put _ (some 69) _ = _
      simp only [Act.put, List.setIfInBounds_toArray, List.set_cons_zero, List.set_cons_succ, i64_w, i32_w]
      rfl
    refine pure_ (i := 14) (N := some 70) (v := ?_) (a' := ?_) #[true, true, true, true, true, true, true, true, true, true, true, true, true, true, true, false, false] rfl rfl (by kernel_rfl) (fun _ _ _ h => h) (Or.inl ⟨by rfl, ?_⟩) ?_ ?_
    rotate_left
    · intro w'
      go_simp
      with_reducible rfl
    rotate_left
    · simp only [Act.put, List.setIfInBounds_toArray, List.set_cons_zero, List.set_cons_succ, i64_w, i32_w]
      rfl
    refine pure_ (i := 15) (N := some 71) (v := ?_) (a' := ?_) #[true, true, true, true, true, true, true, true, true, true, true, true, true, true, true, true, false] rfl rfl (by kernel_rfl) (fun _ _ _ h => h) (Or.inl ⟨by rfl, ?_⟩) ?_ ?_
    rotate_left
    · intro w'
      go_simp
      with_reducible rfl
    rotate_left
    · simp only [Act.put, List.setIfInBounds_toArray, List.set_cons_zero, List.set_cons_succ, i64_w, i32_w]
      rfl
    refine last_ (i := 16) (N := none) #[true, true, true, true, true, true, true, true, true, true, true, true, true, true, true, true, true] rfl rfl (by kernel_rfl) (by decide) (fun K hK => ?_)
    have hfz := blk_frozen X7.out 0
    have hcz := (blk_cell X7.out 0).trans (rfl : _ = some (Value.slice A rows.length c))
    refine skip_ (w1 := ?_) (by rfl) rfl ?_ ?_
    rotate_left
    · go_simp
      rfl
    refine hK.out _ _ ?_
    clear hK K
    refine done_ (by kernel_rfl) ?_
    clear hHeld
    have X8 := Aside0.mk (X5.out.grow G7.out O7.out)
    have K8 := Aside0.mk (show Kp (Snx gx gr (Value.slice A rows.length c)) w (w7.setCell ⟨gx, 0, none⟩ (.slice A7 rows7.length c7)) from
      (((K3.out.imp (S' := Snx gx gr (Value.slice A rows.length c)) (fun _ _ h => .inr (.inl h))).trans (Kp.below (below_step B4.out (below_drew (Below.refl w4.heap.size w4))))).trans (Kp.grown G7.out (fun k hk => .inr (.inr hk.symm)))).set (p := ⟨gx, 0, none⟩) (.inl rfl) _)
    have HL7 := Aside0.mk (show x < rows7.length from by rw [← L7.out, List.length_append, List.length_singleton]; have := HX.out; have := HR.out; have := HLT.out; omega)
    obtain ⟨w8, hw8⟩ : ∃ w8, w7.setCell ⟨gx, 0, none⟩ (.slice A7 rows7.length c7) = w8 := ⟨_, rfl⟩
    rw [hw8] at X8 K8
    rw [hw8]
    clear hw8 X3 X4 X5 X6 X7
    obtain ⟨ad7, rfl, hx7⟩ := Kd.at_string (Kd.R_reads' X8.out.hr).2.2 (x : Int) (Int.natCast_nonneg x) (Int.ofNat_lt.2 HL7.out)
    rw [Int.toNat_natCast, rdOf_nat] at hx7
    obtain ⟨y, hy⟩ : ∃ y, rows7.getD x ByteArray.empty = y := ⟨_, rfl⟩
    rw [hy] at hx7
    have HY := Aside0.mk (show rows7.getD x ⟨#[]⟩ = y from hy)
    have hc0 := (blk_cell X8.out.hx 0).trans (rfl : _ = some (Value.slice (some ad7) rows7.length c7))
    have hf3 := blk_frozen X8.out.hx 3
    have hc3 := (blk_cell X8.out.hx 3).trans (rfl : _ = some (Value.string last))
    have p4 : ((x : Int) < (rows7.length : Int)) = True := eq_true (Int.ofNat_lt.2 HL7.out)
    clear hy
    go_wp2
    go_ret2
    rw [N3.out, L7.out, HY.out]
    exact ⟨_, _, rfl, rfl, K8.out.set (p := ⟨gx, 3, none⟩) (.inl rfl) _, fun _ => ⟨_, p3, P3.out.1, P3.out.2, X8.out.set3 _, fun k hk => by
      rcases H7.out with h | ⟨bb, h, hb⟩
      · left; rw [← hk]; exact h
      · right
        have hk2 : some bb = some k := h.symm.trans hk
        have h3 := Option.some.inj hk2
        have h4 := K3.out.size
        have h5 := B4.out.size
        have h6 : w4.heap.size ≤ bb := hb
        omega⟩⟩
set_option maxHeartbeats 8000000 in
set_option maxRecDepth 100000 in
theorem next_false (base gx gr b room : Nat) (s : ByteArray) (v : Value) (rows : List ByteArray) (last : ByteArray) (p : Nat) (w : World) (h : Xr base gx gr b room s v rows last p w) (hp : p ≤ 8 * s.size) (hbw : base ≤ w.heap.size)
    (h1 : 256 ≤ rows.length) (h2 : rows.length ≤ 65536) (hf : ∀ r ∈ rows, 1 ≤ r.size ∧ r.size ≤ 16777216) (hl : last.size ≤ 16777216) (hw : wtB room rows last = false) :
    Calls Try.prog 23 #[.pointer (some ⟨gx, 0, none⟩)] w fun e w' => ∃ (r : ByteArray) (er : Int), e = .returned (.tuple #[.string r, .int .i64 er]) ∧ (nxt (nb s) room rows last p).1 = (r, er) ∧ Kp (Snx gx gr v) w w' ∧
      (er = 0 → ∃ (v' : Value) (p' : Nat), (nxt (nb s) room rows last p).2.2.2 = (p' : Int) ∧ p' ≤ 8 * s.size ∧ Xr base gx gr b room s v' (nxt (nb s) room rows last p).2.1 (nxt (nb s) room rows last p).2.2.1 p' w' ∧ (∀ k, v'.ownBlock = some k → some k = v.ownBlock ∨ w.heap.size ≤ k)) := by
  obtain ⟨A, c, rfl⟩ := Kd.R_slice h.hr
  obtain ⟨n, hn⟩ : ∃ n, rows.length = n := ⟨_, rfl⟩
  have hc0 := (blk_cell h.hx 0).trans (rfl : _ = some (Value.slice A rows.length c))
  have X0 := Aside0.mk h
  have HN := Aside0.mk (show 2 ≤ n ∧ n ≤ 4294967296 by omega)
  have HP := Aside0.mk hp
  have HBW := Aside0.mk hbw
  have HR := Aside0.mk (And.intro h1 (And.intro h2 hn))
  have HF := Aside0.mk (And.intro hf hl)
  have HW := Aside0.mk hw
  have EN := Aside0.mk (show wrap64 ((rows.length : Int) + 1) = ((rows.length + 1 : Nat) : Int) from by rw [w64 (by omega) (by omega)]; omega)
  have hx0 : nxt (nb s) room rows last p = nxt (nb s) room rows last p := rfl
  obtain ⟨x, hx, hx2⟩ := rtake_nn (nb s) p ((wd n : Nat) : Int)
  obtain ⟨e1, he1⟩ : ∃ e1, (rtake (nb s) p ((wd n : Nat) : Int)).2.1 = e1 := ⟨_, rfl⟩
  have HX := Aside0.mk (And.intro hx (And.intro hx2 he1))
  have NX := Aside0.mk (show nxt (nb s) room rows last p = if e1 ≠ 0 then ((⟨#[]⟩, e1), rows, last, (rtake (nb s) p ((wd n : Nat) : Int)).2.2) else if n ≤ x then ((⟨#[]⟩, 4), rows, last, (rtake (nb s) p ((wd n : Nat) : Int)).2.2)
      else ((rows.getD x ⟨#[]⟩, 0), rows, rows.getD x ⟨#[]⟩, (rtake (nb s) p ((wd n : Nat) : Int)).2.2) from by
    unfold nxt
    simp only [hw, Bool.toNat_false, Nat.add_zero, hn, hx, he1, Int.toNat_natCast, if_true, Bool.false_eq_true, if_false])
  clear h hp hbw h1 h2 hn hf hl hw hx0 hx hx2 he1
  go_enter Try.func23, Try.ntmps23
  go_wp2_with (go_at_call 34; refine (waits_ok X0.out).mono ?_; rintro e w1 ⟨rfl, hB⟩; rw [HW.out]; have XX := Aside0.mk (X0.out.below hB); have BB := Aside0.mk hB; clear hB hc0)
  have HNN := HR.out.2.2
  rw [show ((rows.length : Nat) : Int) = ((n : Nat) : Int) from congrArg _ HNN]
  clear HNN
  refine start_ (n := 12) (S := fun w' => w'.cell? ⟨gx, 2, none⟩ = some (.pointer (some ⟨gr, 0, none⟩))) (ds := [6]) #[false, false, false, false, false, false, false, false, false, false, false, false] (by kernel_rfl) rfl rfl (((blk_cell XX.out.hx 2).trans rfl)) (fun hHeld => ?_)
  refine pure_ (i := 0) (N := some 19) (v := ?_) (a' := ?_) #[true, false, false, false, false, false, false, false, false, false, false, false] rfl rfl (by kernel_rfl) (fun _ _ _ h => h) (Or.inl ⟨by rfl, ?_⟩) ?_ ?_
  rotate_left
  · intro w'
    go_simp
    with_reducible rfl
  rotate_left
  · simp only [Act.put, List.setIfInBounds_toArray, List.set_cons_zero, List.set_cons_succ, i64_w, i32_w]
    rfl
  refine pure_ (i := 1) (N := some 20) (v := ?_) (a' := ?_) #[true, true, false, false, false, false, false, false, false, false, false, false] rfl rfl (by kernel_rfl) (fun _ _ _ h => h) (Or.inl ⟨by rfl, ?_⟩) ?_ ?_
  rotate_left
  · intro w'
    go_simp
    with_reducible rfl
  rotate_left
  · simp only [Act.put, List.setIfInBounds_toArray, List.set_cons_zero, List.set_cons_succ, i64_w, i32_w]
    rfl
  refine pure_ (i := 2) (N := some 21) (v := ?_) (a' := ?_) #[true, true, true, false, false, false, false, false, false, false, false, false] rfl rfl (by kernel_rfl) (fun _ _ _ h => h) (Or.inl ⟨by rfl, ?_⟩) ?_ ?_
  rotate_left
  · intro w'
    go_simp
    with_reducible rfl
  rotate_left
  · simp only [Act.put, List.setIfInBounds_toArray, List.set_cons_zero, List.set_cons_succ, i64_w, i32_w]
    rfl
  refine pure_ (i := 4) (N := some 23) (v := ?_) (a' := ?_) #[true, true, true, false, true, false, false, false, false, false, false, false] rfl rfl (by kernel_rfl) (fun _ _ _ h => h) (Or.inl ⟨by rfl, ?_⟩) ?_ ?_
  rotate_left
  · intro w'
    go_simp
    with_reducible rfl
  rotate_left
  · simp only [Act.put, List.setIfInBounds_toArray, List.set_cons_zero, List.set_cons_succ, i64_w, i32_w]
    rfl
  refine take_ (i := 3) (N := some 22) (v := ?_) (a' := ?_) #[true, true, true, true, true, false, false, false, false, false, false, false] rfl rfl (by kernel_rfl) (fun _ _ _ h => h) (Or.inl ⟨by rfl, ?_⟩) hHeld ?_ ?_
  rotate_left
  · intro w' s0
    go_simp
    with_reducible rfl
  rotate_left
  · simp only [Act.put, List.setIfInBounds_toArray, List.set_cons_zero, List.set_cons_succ, i64_w, i32_w]
    rfl
  refine one_ (i := 5) (N := some 24) #[true, true, true, true, true, true, false, false, false, false, false, false] rfl rfl (by kernel_rfl) (by decide) (fun K hK => ?_)
  refine goes_ Try.func32 (by kernel_rfl) rfl #[.int .i64 (n : Int)] (by rfl) rfl rfl (by simp only [List.map_toArray, List.map_cons, List.map_nil]; rfl) ?_
  with_reducible refine (width_at n HN.out.1 HN.out.2 w1.drew).mono ?_
  rintro e w2 ⟨rfl, hb⟩
  refine ⟨_, rfl, ?_⟩
  have X2 := Aside0.mk ((XX.out.below (below_drew (Below.refl w1.heap.size w1))).below hb)
  have B2 := Aside0.mk (below_step (below_step BB.out (below_drew (Below.refl w1.heap.size w1))) hb)
  clear hb
  refine hK.out _ _ (((blk_cell X2.out.hx 2).trans rfl)) (fun hHeld => ?_)
  clear hK K
  refine norm_ (a' := ?_) ?_ ?_
  rotate_left
  · show Act.put _ (some 24) _ = _
    simp only [Act.put, List.setIfInBounds_toArray, List.set_cons_zero, List.set_cons_succ, i64_w, i32_w]
    rfl
  refine last_ (i := 6) (N := some 25) #[true, true, true, true, true, true, true, false, false, false, false, false] rfl rfl (by kernel_rfl) (by decide) (fun K hK => ?_)
  refine goes_ Try.func35 (by kernel_rfl) rfl #[.pointer (some ⟨gr, 0, none⟩), .int .i64 ((wd n : Nat) : Int)] (by rfl) rfl rfl (by simp only [List.map_toArray, List.map_cons, List.map_nil]; rfl) ?_
  with_reducible refine (Take_rd (W := w2) ((wd n : Nat) : Int) X2.out.rd HP.out).mono ?_
  rintro e w3 ⟨p3, rfl, hp3, hp4, hR3, hK3⟩
  refine ⟨_, rfl, ?_⟩
  have X3 := Aside0.mk (X2.out.take hR3 hK3)
  have K3 := Aside0.mk (show Kp (fun i => i = gr) w w3 from (Kp.below B2.out).trans (kp_keep hK3))
  have P3 := Aside0.mk (And.intro hp3 hp4)
  clear hR3 hK3 hp3 hp4
  refine hK.out _ _ ?_
  clear hK K
  refine norm_ (a' := ?_) ?_ ?_
  rotate_left
  · show Act.put _ (some 25) _ = _
    simp only [Act.put, List.setIfInBounds_toArray, List.set_cons_zero, List.set_cons_succ, i64_w, i32_w]
    rfl
  refine pure_ (i := 7) (N := some 18) (v := ?_) (a' := ?_) #[true, true, true, true, true, true, true, true, false, false, false, false] rfl rfl (by kernel_rfl) (fun _ _ _ h => h) (Or.inl ⟨by rfl, ?_⟩) ?_ ?_
  rotate_left
  · intro w'
    go_simp
    with_reducible rfl
  rotate_left
  · simp only [Act.put, List.setIfInBounds_toArray, List.set_cons_zero, List.set_cons_succ, i64_w, i32_w]
    rfl
  refine pure_ (i := 8) (N := some 26) (v := ?_) (a' := ?_) #[true, true, true, true, true, true, true, true, true, false, false, false] rfl rfl (by kernel_rfl) (fun _ _ _ h => h) (Or.inl ⟨by rfl, ?_⟩) ?_ ?_
  rotate_left
  · intro w'
    go_simp
    with_reducible rfl
  rotate_left
  · simp only [Act.put, List.setIfInBounds_toArray, List.set_cons_zero, List.set_cons_succ, i64_w, i32_w]
    rfl
  refine pure_ (i := 9) (N := some 27) (v := ?_) (a' := ?_) #[true, true, true, true, true, true, true, true, true, true, false, false] rfl rfl (by kernel_rfl) (fun _ _ _ h => h) (Or.inl ⟨by rfl, ?_⟩) ?_ ?_
  rotate_left
  · intro w'
    go_simp
    with_reducible rfl
  rotate_left
  · simp only [Act.put, List.setIfInBounds_toArray, List.set_cons_zero, List.set_cons_succ, i64_w, i32_w]
    rfl
  refine pure_ (i := 10) (N := some 5) (v := ?_) (a' := ?_) #[true, true, true, true, true, true, true, true, true, true, true, false] rfl rfl (by kernel_rfl) (fun _ _ _ h => h) (Or.inl ⟨by rfl, ?_⟩) ?_ ?_
  rotate_left
  · intro w'
    go_simp
    with_reducible rfl
  rotate_left
  · simp only [Act.put, List.setIfInBounds_toArray, List.set_cons_zero, List.set_cons_succ, i64_w, i32_w]
    rfl
  refine pure_ (i := 11) (N := some 6) (v := ?_) (a' := ?_) #[true, true, true, true, true, true, true, true, true, true, true, true] rfl rfl (by kernel_rfl) (fun _ _ _ h => h) (Or.inl ⟨by rfl, ?_⟩) ?_ ?_
  rotate_left
  · intro w'
    go_simp
    with_reducible rfl
  rotate_left
  · simp only [Act.put, List.setIfInBounds_toArray, List.set_cons_zero, List.set_cons_succ, i64_w, i32_w]
    rfl
  refine done_ (by kernel_rfl) ?_
  clear hHeld
  rw [HX.out.1, HX.out.2.2]
  by_cases he : e1 = 0
  case neg =>
    have t1 : (e1 != 0) = true := bne_iff_ne.2 he
    have HE := Aside0.mk he
    clear he
    go_wp2
    go_ret2
    exact ⟨_, _, rfl, by rw [NX.out, if_pos HE.out], K3.out.imp (fun _ _ h => .inr (.inl h)), fun h => absurd h HE.out⟩
  obtain rfl := he
  have CV := Aside0.mk (conv_u64 x HX.out.2.1)
  by_cases hx : n ≤ x
  · have t2 : decide ((x : Int) ≥ (n : Int)) = true := decide_eq_true (Int.ofNat_le.2 hx)
    have t3 : decide ((n : Int) ≤ (x : Int)) = true := decide_eq_true (Int.ofNat_le.2 hx)
    have t4 : decide (n ≤ x) = true := decide_eq_true hx
    have HE := Aside0.mk hx
    clear hx
    go_wp2_with ((with_reducible refine gate_dst (N := 32) rfl ?_); refine val_event rfl (conv_run rfl rfl (CV.out _)) ?_)
    go_ret2
    exact ⟨_, _, rfl, by rw [NX.out, if_neg (by simp), if_pos HE.out], K3.out.imp (fun _ _ h => .inr (.inl h)), fun h => absurd h (by decide)⟩
  have t2 : decide ((x : Int) ≥ (n : Int)) = false := decide_eq_false (fun h => hx (Int.ofNat_le.1 h))
  have t3 : decide ((n : Int) ≤ (x : Int)) = false := decide_eq_false (fun h => hx (Int.ofNat_le.1 h))
  have t4 : decide (n ≤ x) = false := decide_eq_false hx
  have hc0 := (blk_cell X3.out.hx 0).trans (rfl : _ = some (Value.slice A rows.length c))
  have hc3 := (blk_cell X3.out.hx 3).trans (rfl : _ = some (Value.string last))
  have p1 : (0 ≤ (x : Int)) = True := eq_true (Int.natCast_nonneg x)
  have N3 := Aside0.mk (show nxt (nb s) room rows last p = ((rows.getD x ⟨#[]⟩, 0), rows, rows.getD x ⟨#[]⟩, (rtake (nb s) p ((wd n : Nat) : Int)).2.2) from by rw [NX.out, if_neg (by simp), if_neg hx])
  clear NX
  have hlt : x < rows.length := by have := HR.out.2.2; omega
  have t5 : decide ((x : Int) < (rows.length : Int)) = true := decide_eq_true (Int.ofNat_lt.2 hlt)
  have t6 : decide (x < rows.length) = true := decide_eq_true hlt
  have t7 : decide (x < n) = true := decide_eq_true (Nat.lt_of_not_le hx)
  have t8 : decide ((x : Int) < (n : Int)) = true := decide_eq_true (Int.ofNat_lt.2 (Nat.lt_of_not_le hx))
  have p5 : ((x : Int) < (n : Int)) = True := eq_true (Int.ofNat_lt.2 (Nat.lt_of_not_le hx))
  have p2 : ((x : Int) < (rows.length : Int)) = True := eq_true (Int.ofNat_lt.2 hlt)
  obtain ⟨ad, rfl, hxc⟩ := Kd.at_string (Kd.R_reads' X3.out.hr).2.2 (x : Int) (Int.natCast_nonneg x) (Int.ofNat_lt.2 hlt)
  rw [Int.toNat_natCast, rdOf_nat] at hxc
  obtain ⟨hd, hhd⟩ : ∃ hd, rows.getD x ByteArray.empty = hd := ⟨_, rfl⟩
  rw [hhd] at hxc
  have HD := Aside0.mk (show rows.getD x ⟨#[]⟩ = hd from hhd)
  have HC := Aside0.mk hxc
  clear hx hlt hhd
  go_wp2_with (first
    | ((with_reducible refine gate_dst (N := 32) rfl ?_); refine val_event rfl (conv_run rfl rfl (CV.out _)) ?_)
    | (go_at_call 34; refine (waits_ok X3.out).mono ?_; rintro e w4 ⟨rfl, hB⟩; rw [HW.out]; have X4 := Aside0.mk (X3.out.below hB); have K4 := Aside0.mk (K3.out.trans (Kp.below hB)); replace hc0 := (blk_cell X4.out.hx 0).trans (rfl : _ = some (Value.slice (some ad) rows.length c)); have hf3 := blk_frozen X4.out.hx 3; replace hxc := at_row X4.out.hr HD.out t6; replace hc3 := (blk_cell X4.out.hx 3).trans (rfl : _ = some (Value.string last)); clear hB))
  go_ret2
  rw [N3.out, HD.out]
  exact ⟨_, _, rfl, rfl, (K4.out.imp (S' := Snx gx gr (Value.slice (some ad) rows.length c)) (fun _ _ h => .inr (.inl h))).set (p := ⟨gx, 3, none⟩) (.inl rfl) _, fun _ => ⟨_, p3, P3.out.1, P3.out.2, X4.out.set3 _, fun k hk => .inl hk.symm⟩⟩
end Go.Proofs.Ytnmggblhbodfgaa.Hd
/- lzw.Decode, walked by hand. -/
namespace Go.Proofs.Ytnmggblhbodfgaa.Hd
open Go Go.RowKit Go.Proofs.YtnmggblhbodfgaaW.PrintWords Go.Proofs.YtnmggblhbodfgaaW.PrintLast Go.Proofs.YtnmggblhbodfgaaW.PrintMore Go.Proofs.Ytnmggblhbodfgaa.Hw Go.Proofs.Ytnmggblhbodfgaa.Com Go.Proofs.Ytnmggblhbodfgaa.P
attribute [local go_sem] max2_int min2_int max_two min_two max_three min_three max_four min_four
/-- The rows at first. -/
def rows0 : List ByteArray := (List.range 256).map (fun c : Nat => strOfNums [((c : Nat) : Int)])
theorem rows0_len : rows0.length = 256 := by simp [rows0]
theorem fresh_l0 (d : Nat) : ∀ i : Nat, i + d = 256 → Ev (fun k => lzw_fresh.l0 k ((List.range i).map (fun c : Nat => strOfNums [((c : Nat) : Int)])) (i : Int)) rows0 := by
  induction d with
  | zero =>
    intro i hi
    obtain rfl : i = 256 := hi
    refine Ev.step (f := fun _ => some rows0) (fun k => ?_) (Ev.now _)
    rw [lzw_fresh.l0, if_neg (by decide)]
    rfl
  | succ d ih =>
    intro i hi
    refine Ev.step (f := fun k => lzw_fresh.l0 k ((List.range (i + 1)).map (fun c : Nat => strOfNums [((c : Nat) : Int)])) ((i + 1 : Nat) : Int)) (fun k => ?_) (ih (i + 1) (by omega))
    rw [lzw_fresh.l0, if_pos (by omega), if_pos (by rw [List.length_map, List.length_range]; omega), w64 (by omega) (by omega), List.range_succ, List.map_append, List.map_singleton]
    have e : ((i : Int) % 256) = (i : Int) := by omega
    rw [e]
    rfl
theorem fresh_ok (w : World) : Calls Try.prog 20 #[] w fun e w' => ∃ (A : Option Addr) (c : Nat), e = .returned (.slice A 256 c) ∧ Kd.R Kd.string 9 w' w.heap.size (fun _ => True) (.slice A 256 c) rows0 ∧ Below w.heap.size w w' := by
  obtain ⟨k, hk⟩ := ev_get (fresh_l0 256 0 (by omega))
  refine (lzw_fresh.calls k rows0 w hk).mono ?_
  rintro e w' ⟨v, rfl, hR, hB⟩
  obtain ⟨A, c, hv⟩ := Kd.R_slice hR
  rw [rows0_len] at hv
  subst hv
  exact ⟨A, c, rfl, hR, hB⟩
/-- The reader's parts, new. -/
def Dec3 (w : World) (s : ByteArray) (A : Option Addr) (c gr : Nat) (W : World) : Prop := Kd.R Kd.string 9 W w.heap.size (fun _ => True) (.slice A 256 c) rows0 ∧ (∃ b, RdS W gr b s 0 ∧ w.heap.size ≤ b) ∧ w.heap.size ≤ gr ∧ Below w.heap.size w W
section
variable {w w2 w3 : World} {s : ByteArray} {A : Option Addr} {c gr b : Nat}
theorem dec3a (hR2 : Kd.R Kd.string 9 w3 w.drew.heap.size (fun _ => True) (.slice A 256 c) rows0) (hb2 : Below w.drew.heap.size w.drew w2) (hD3 : RdS w3 gr b s 0) (hl3 : w2.heap.size ≤ b) (hb3 : Below w2.heap.size w2 w3) : Dec3 w s A c gr w3 := by
  have h1 : w.heap.size ≤ w2.heap.size := hb2.size
  have h2 := hD3.2.2.2.1
  exact ⟨hR2, ⟨b, hD3, by omega⟩, by omega, below_step (below_step (below_drew (Below.refl w.heap.size w)) hb2) hb3⟩
theorem dec3b (hR2 : Kd.R Kd.string 9 w2 w3.heap.size (fun _ => True) (.slice A 256 c) rows0) (hb2 : Below w3.heap.size w3 w2) (hD3 : RdS w2 gr b s 0) (hl3 : w.drew.heap.size ≤ b) (hb3 : Below w.drew.heap.size w.drew w3) : Dec3 w s A c gr w2 := by
  have h1 : w.heap.size ≤ w3.heap.size := hb3.size
  have h2 := hD3.2.2.2.1
  have h3 : w.heap.size ≤ b := hl3
  exact ⟨Kd.R_lower hR2 h1, ⟨b, hD3, h3⟩, by omega, below_step (below_step (below_drew (Below.refl w.heap.size w)) hb3) hb2⟩
theorem dec3_box {W : World} (h : Dec3 w s A c gr W) (o : Obj) : Dec3 w s A c gr (W.alloc o) ∧ (W.alloc o).heap[W.heap.size]? = some o ∧ w.heap.size ≤ W.heap.size := by
  have hb := below_alloc (Below.refl W.heap.size W) o
  obtain ⟨h1, ⟨b, h2, h3⟩, h4, h5⟩ := h
  exact ⟨⟨Kd.R_below h1 hb, ⟨b, h2.below hb, h3⟩, h4, below_step h5 hb⟩, (MapKept.heap_alloc W o).1, h5.size⟩
end
/-- What stands in memory while bytes are decoded. -/
structure DecS (w : World) (B2 gx gr b gb room : Nat) (s : ByteArray) (v bv : Value) (rows : List ByteArray) (last out : ByteArray) (p : Nat) (W : World) : Prop where
  x : Xr w.heap.size gx gr b room s v rows last p W
  y : Bl W B2 gb bv (bytesOf out)
  lb : b < B2
  l2 : w.heap.size ≤ B2
  bl : Below w.heap.size w W
section
variable {w W W1 : World} {B2 gx gr b gb room p p1 : Nat} {s : ByteArray} {v v1 bv bv1 : Value} {rows rows1 : List ByteArray} {last last1 out out1 : ByteArray}
theorem snx_join (h : DecS w B2 gx gr b gb room s v bv rows last out p W) (hk : Kp (Snx gx gr v) W W1) : Below w.heap.size w W1 := by
  refine Kp.join h.bl hk ?_ h.bl.size
  rintro i (e | e | e)
  · rw [e]; exact h.x.lx
  · rw [e]; exact h.x.lr
  · exact Kd.R_base h.x.hr i e.symm
theorem DecS.next (h : DecS w B2 gx gr b gb room s v bv rows last out p W) (hX : Xr w.heap.size gx gr b room s v1 rows1 last1 p1 W1) (hk : Kp (Snx gx gr v) W W1) : DecS w B2 gx gr b gb room s v1 bv rows1 last1 out p1 W1 := by
  refine ⟨hX, h.y.move ?_ ?_, h.lb, h.l2, snx_join h hk⟩
  · obtain ⟨q, _, hb, _⟩ := h.y
    obtain ⟨cr, hcr⟩ := h.x.rd.blk
    refine hk.2.2.2.2 gb (blk_lt hb) ?_
    rintro (e | e | e)
    · exact blk_ne hb h.x.hx (by decide) e
    · exact blk_ne hb hcr (by decide) e
    · exact Kd.R_ne h.x.hr hb (by decide) e
  · rintro k hk1 ⟨cs, hc⟩
    obtain ⟨cr, hcr⟩ := h.x.rd.blk
    refine hk.2.2.2.2 k hk1 ?_
    rintro (e | e | e)
    · exact blk_ne hc h.x.hx (by decide) e
    · exact blk_ne hc hcr (by decide) e
    · exact Kd.R_ne h.x.hr hc (by decide) e
theorem DecS.write (h : DecS w B2 gx gr b gb room s v bv rows last out p W) (hY : Bl W1 B2 gb bv1 (bytesOf out1)) (hk : Kp (fun i => i = gb ∨ some i = bv.ownBlock) W W1) : DecS w B2 gx gr b gb room s v bv1 rows last out1 p W1 := by
  obtain ⟨q, hq, hb, hr, hlg⟩ := h.y
  obtain ⟨cr, hcr⟩ := h.x.rd.blk
  have hown : ∀ k, bv.ownBlock = some k → B2 ≤ k := Kd.R_base hr
  refine ⟨⟨hk.at_ h.x.hx ?_, ?_, h.x.rd.move (hk.2.2.2.2 gr h.x.rd.lt.1 ?_) (hk.2.2.2.2 b h.x.rd.lt.2 ?_), h.x.lx, h.x.lr⟩, hY, h.lb, h.l2, Kp.join h.bl hk ?_ h.bl.size⟩
  · rintro (e | e)
    · exact blk_ne h.x.hx hb (by decide) e
    · exact Kd.R_ne hr h.x.hx (by decide) e
  · refine Kd.R_mono (Kp.R (Kd.R_bound h.x.hr) hk ?_) (fun _ _ => trivial)
    rintro i ⟨_, _, _, q9, hq9, cells, hc⟩ _ (e | e)
    · have : q9 = 9 := List.mem_singleton.1 (show q9 ∈ [9] from hq9)
      subst this
      exact blk_ne hc hb (by decide) e
    · have : q9 = 9 := List.mem_singleton.1 (show q9 ∈ [9] from hq9)
      subst this
      exact Kd.R_ne hr hc (by decide) e
  · rintro (e | e)
    · exact blk_ne hcr hb (by decide) e
    · exact Kd.R_ne hr hcr (by decide) e
  · rintro (e | e)
    · have := h.lb; omega
    · have := hown b e.symm
      have := h.lb; omega
  · rintro i (e | e)
    · rw [e]; exact Nat.le_trans h.l2 hlg
    · exact Nat.le_trans h.l2 (hown i e.symm)
theorem DecS.below (h : DecS w B2 gx gr b gb room s v bv rows last out p W) (hB : Below W.heap.size W W1) : DecS w B2 gx gr b gb room s v bv rows last out p W1 := ⟨h.x.below hB, h.y.below hB, h.lb, h.l2, below_step h.bl hB⟩
end
/-- So many bytes, or the error. -/
def dec (B : List Nat) (room many : Nat) : Nat → List ByteArray → ByteArray → Nat → ByteArray → ByteArray × Int
  | q, rows, last, p, out =>
    if many ≤ out.size then (if 8 ≤ 8 * B.length - p ∨ rpeek B p ((8 * B.length - p : Nat) : Int) ≠ 0 then (⟨#[]⟩, 4) else (out, 0))
    else match q with
      | 0 => (⟨#[]⟩, 0)
      | q + 1 =>
        if (nxt B room rows last p).1.2 ≠ 0 then (⟨#[]⟩, (nxt B room rows last p).1.2)
        else if many - out.size < (nxt B room rows last p).1.1.size then (⟨#[]⟩, 4)
        else dec B room many q (nxt B room rows last p).2.1 (nxt B room rows last p).2.2.1 (nxt B room rows last p).2.2.2.toNat (out ++ (nxt B room rows last p).1.1)
def lzw_Decode.f (s : ByteArray) (many m : Int) : Option (ByteArray × Int) :=
  if m < 9 ∨ 16 < m ∨ many < 0 ∨ 16777216 < many then some (⟨#[]⟩, 1)
  else if s.size ≤ 1099511627776 then some (dec (nb s) (2 ^ m.toNat) many.toNat many.toNat rows0 ⟨#[]⟩ 0 ⟨#[]⟩) else none
end Go.Proofs.Ytnmggblhbodfgaa.Hd
/- What holds of lzw's rows while bytes are decoded. -/
namespace Go.Proofs.Ytnmggblhbodfgaa.Hd
open Go Go.RowKit Go.Proofs.YtnmggblhbodfgaaW.PrintWords Go.Proofs.YtnmggblhbodfgaaW.PrintLast Go.Proofs.YtnmggblhbodfgaaW.PrintMore Go.Proofs.Ytnmggblhbodfgaa.Hw Go.Proofs.Ytnmggblhbodfgaa.Com Go.Proofs.Ytnmggblhbodfgaa.P
/-- No row is empty, none longer than its place says. -/
structure DI (rows : List ByteArray) (last : ByteArray) : Prop where
  l1 : 256 ≤ rows.length
  l2 : rows.length ≤ 65536
  fr : ∀ i, i < rows.length → 1 ≤ (rows.getD i ⟨#[]⟩).size ∧ (rows.getD i ⟨#[]⟩).size ≤ i + 1
  la : last.size ≤ rows.length
theorem di_mem {rows : List ByteArray} {last : ByteArray} (h : DI rows last) : (∀ r ∈ rows, 1 ≤ r.size ∧ r.size ≤ 16777216) ∧ last.size ≤ 16777216 := by
  refine ⟨fun r hr => ?_, by have := h.la; have := h.l2; omega⟩
  obtain ⟨i, hi, rfl⟩ := List.mem_iff_getElem.1 hr
  have := h.fr i hi
  rw [List.getD_eq_getElem?_getD, List.getElem?_eq_getElem hi, Option.getD_some] at this
  have := h.l2
  omega
theorem di_start : DI rows0 ⟨#[]⟩ := by
  refine ⟨by rw [rows0_len]; omega, by rw [rows0_len]; omega, fun i hi => ?_, Nat.zero_le _⟩
  rw [rows0_len] at hi
  have : rows0.getD i ⟨#[]⟩ = strOfNums [((i : Nat) : Int)] := by
    unfold rows0
    rw [List.getD_eq_getElem?_getD, List.getElem?_map, List.getElem?_range hi]
    rfl
  rw [this]
  have : (strOfNums [((i : Nat) : Int)]).size = 1 := by simp [strOfNums, ByteArray.size]
  omega
theorem nxt_di {B : List Nat} {room : Nat} {rows : List ByteArray} {last : ByteArray} {p : Nat} (h : DI rows last) (hr : room ≤ 65536) (he : (nxt B room rows last p).1.2 = 0) :
    DI (nxt B room rows last p).2.1 (nxt B room rows last p).2.2.1 ∧ (nxt B room rows last p).2.2.1 = (nxt B room rows last p).1.1 ∧ 1 ≤ (nxt B room rows last p).1.1.size ∧ (nxt B room rows last p).1.1.size ≤ 65536 := by
  obtain ⟨x, hx, _⟩ := rtake_nn B p ((wd (rows.length + (wtB room rows last).toNat) : Nat) : Int)
  unfold nxt at he ⊢
  simp only [hx, Int.toNat_natCast] at he ⊢
  by_cases h1 : (rtake B p ((wd (rows.length + (wtB room rows last).toNat) : Nat) : Int)).2.1 ≠ 0
  · rw [if_pos h1] at he; exact absurd he h1
  rw [if_neg h1] at he ⊢
  by_cases h2 : rows.length + (wtB room rows last).toNat ≤ x
  · rw [if_pos h2] at he; exact absurd he (by simp)
  rw [if_neg h2] at he ⊢
  cases hw : wtB room rows last with
  | false =>
    rw [hw] at h2
    simp only [Bool.toNat_false, Nat.add_zero] at h2
    have hf := h.fr x (by omega)
    have h3 := h.l2
    simp only [Bool.false_eq_true, if_false]
    exact ⟨⟨h.l1, h.l2, h.fr, by omega⟩, trivial, hf.1, by omega⟩
  | true =>
    have hw2 := of_decide_eq_true (show decide (last.size ≠ 0 ∧ rows.length < room) = true from hw)
    rw [hw] at h2
    simp only [Bool.toNat_true] at h2
    simp only [if_true]
    obtain ⟨hd, hhd⟩ : ∃ hd, (if x < rows.length then rows.getD x ⟨#[]⟩ else last) = hd := ⟨_, rfl⟩
    rw [hhd]
    have hd1 : 1 ≤ hd.size := by
      rw [← hhd]
      split
      · exact (h.fr x (by assumption)).1
      · omega
    have hn : (last ++ hd.extract 0 1).size = last.size + 1 := by
      rw [ByteArray.size_append, ByteArray.size_extract]; omega
    have hla := h.la
    have hD : DI (rows ++ [last ++ hd.extract 0 1]) ⟨#[]⟩ := by
      refine ⟨by rw [List.length_append]; have := h.l1; omega, by rw [List.length_append, List.length_singleton]; omega, fun i hi => ?_, Nat.zero_le _⟩
      rw [List.length_append, List.length_singleton] at hi
      by_cases h3 : i < rows.length
      · rw [List.getD_eq_getElem?_getD, List.getElem?_append_left h3, ← List.getD_eq_getElem?_getD]
        exact h.fr i h3
      · obtain rfl : i = rows.length := by omega
        rw [List.getD_eq_getElem?_getD, List.getElem?_append_right (Nat.le_refl _), Nat.sub_self]
        simp only [List.getElem?_cons_zero, Option.getD_some]
        rw [hn]
        omega
    have hf := hD.fr x (by rw [List.length_append, List.length_singleton]; omega)
    have h3 := hD.l2
    have h4 : x < (rows ++ [last ++ hd.extract 0 1]).length := by rw [List.length_append, List.length_singleton]; omega
    exact ⟨⟨hD.l1, hD.l2, hD.fr, by omega⟩, trivial, hf.1, by omega⟩
end Go.Proofs.Ytnmggblhbodfgaa.Hd
/- lzw.Decode, walked by hand: the round. -/
namespace Go.Proofs.Ytnmggblhbodfgaa.Hd
open Go Go.RowKit Go.Proofs.YtnmggblhbodfgaaW.PrintWords Go.Proofs.YtnmggblhbodfgaaW.PrintLast Go.Proofs.YtnmggblhbodfgaaW.PrintMore Go.Proofs.Ytnmggblhbodfgaa.Hw Go.Proofs.Ytnmggblhbodfgaa.Com Go.Proofs.Ytnmggblhbodfgaa.P
attribute [local go_sem] max2_int min2_int max_two min_two max_three min_three max_four min_four
theorem next_ok (base gx gr b room : Nat) (s : ByteArray) (v : Value) (rows : List ByteArray) (last : ByteArray) (p : Nat) (w : World) (h : Xr base gx gr b room s v rows last p w) (hp : p ≤ 8 * s.size) (hbw : base ≤ w.heap.size)
    (hd : DI rows last) :
    Calls Try.prog 23 #[.pointer (some ⟨gx, 0, none⟩)] w fun e w' => ∃ (r : ByteArray) (er : Int), e = .returned (.tuple #[.string r, .int .i64 er]) ∧ (nxt (nb s) room rows last p).1 = (r, er) ∧ Kp (Snx gx gr v) w w' ∧
      (er = 0 → ∃ (v' : Value) (p' : Nat), (nxt (nb s) room rows last p).2.2.2 = (p' : Int) ∧ p' ≤ 8 * s.size ∧ Xr base gx gr b room s v' (nxt (nb s) room rows last p).2.1 (nxt (nb s) room rows last p).2.2.1 p' w' ∧ (∀ k, v'.ownBlock = some k → some k = v.ownBlock ∨ w.heap.size ≤ k)) := by
  cases hw : wtB room rows last with
  | true => exact next_true base gx gr b room s v rows last p w h hp hbw hd.l1 hd.l2 (di_mem hd).1 (di_mem hd).2 hw
  | false => exact next_false base gx gr b room s v rows last p w h hp hbw hd.l1 hd.l2 (di_mem hd).1 (di_mem hd).2 hw
theorem infoBld : (Try.prog.info? 63).map (fun i => (i.zero, i.size, i.bytes)) = some (some (.agg #[.pointer none, .slice none 0 0]), 2, 32) := by kernel_rfl
theorem alloc_var {P : Program} {ops : Array Oper} {rest : List Oper} {o : Oper} {a : Act} {Q : Exit → Act → World → Prop} {W : World} (hgd : o.guard = none) {t : TypeId} {z : Value} {size bytes : Nat} {cs : Array Value} (ho : o.op = .alloc t) (hinfo : (P.info? t).map (fun i => (i.zero, i.size, i.bytes)) = some (some z, size, bytes)) (hc : z.cells = cs)
    (h : ∀ (g : Nat) (w1 : World), Aside0 (g = W.heap.size) → Aside0 (w1.heap[g]? = some (.cells cs t (0, 0))) → Aside0 (Below W.heap.size W w1) → wpList P ops Q rest (a.put o.dst (.pointer (some ⟨g, 0, none⟩))) w1) : wpList P ops Q (o :: rest) a W :=
  alloc_event hgd ho hinfo hc (h _ _ ⟨rfl⟩ ⟨blk_new W _⟩ ⟨below_alloc (Below.refl _ _) _⟩)
theorem below_over {n m : Nat} {w w1 w2 : World} (h1 : Below n w w1) (h2 : Below m w1 w2) (hm : n ≤ m) : Below n w w2 :=
  ⟨h2.os.trans h1.os, h2.tape.trans h1.tape, h2.output.trans h1.output, Nat.le_trans h1.size h2.size, fun i hi => (h2.block i (Nat.lt_of_lt_of_le hi hm)).trans (h1.block i hi)⟩
theorem bytesOf_append (x y : ByteArray) : bytesOf (x ++ y) = bytesOf x ++ bytesOf y := by
  rw [bytesOf_list, bytesOf_list, bytesOf_list, ByteArray.data_append, Array.toList_append, List.map_append]
theorem dec_done {B : List Nat} {room many q : Nat} {rows : List ByteArray} {last out : ByteArray} {p : Nat} (h : many ≤ out.size) : dec B room many q rows last p out = if 8 ≤ 8 * B.length - p ∨ rpeek B p ((8 * B.length - p : Nat) : Int) ≠ 0 then (⟨#[]⟩, 4) else (out, 0) := by
  cases q with
  | zero => rw [dec, if_pos h]
  | succ q => rw [dec, if_pos h]
theorem dec_more {B : List Nat} {room many q : Nat} {rows : List ByteArray} {last out : ByteArray} {p : Nat} (h : ¬ many ≤ out.size) : dec B room many (q + 1) rows last p out = if (nxt B room rows last p).1.2 ≠ 0 then (⟨#[]⟩, (nxt B room rows last p).1.2)
        else if many - out.size < (nxt B room rows last p).1.1.size then (⟨#[]⟩, 4)
        else dec B room many q (nxt B room rows last p).2.1 (nxt B room rows last p).2.2.1 (nxt B room rows last p).2.2.2.toNat (out ++ (nxt B room rows last p).1.1) := by
  rw [dec, if_neg h]
/-- What stands in memory when all is made. -/
theorem decS_start {w w5 w6 : World} {s : ByteArray} {A : Option Addr} {c gr gx gb room : Nat} (h : Dec3 w s A c gr w5) (hx : w5.heap[gx]? = some (.cells #[.slice A 256 c, .int .i64 (room : Int), .pointer (some ⟨gr, 0, none⟩), .string ⟨#[]⟩] 60 (0, 0))) (lx : w.heap.size ≤ gx)
    (hg : gb = w5.heap.size) (hb : w6.heap[gb]? = some (.cells #[.pointer none, .slice none 0 0] 63 (0, 0))) (hB : Below w5.heap.size w5 w6) : ∃ b, DecS w w5.heap.size gx gr b gb room s (.slice A 256 c) (.slice none 0 0) rows0 ⟨#[]⟩ ⟨#[]⟩ 0 w6 := by
  obtain ⟨h1, ⟨b, h2, h3⟩, h4, h5⟩ := h
  have hl := h2.lt
  exact ⟨b, ⟨blk_below hx hB, Kd.R_below h1 hB, h2.below hB, lx, h4⟩, ⟨.pointer none, .inl rfl, hb, Kd.R_nil _ _ _ _ _, by omega⟩, hl.2, h5.size, below_step h5 hB⟩
end Go.Proofs.Ytnmggblhbodfgaa.Hd
/- lzw.Decode, walked by hand. -/
namespace Go.Proofs.Ytnmggblhbodfgaa.Hd
open Go Go.RowKit Go.Proofs.YtnmggblhbodfgaaW.PrintWords Go.Proofs.YtnmggblhbodfgaaW.PrintLast Go.Proofs.YtnmggblhbodfgaaW.PrintMore Go.Proofs.Ytnmggblhbodfgaa.Hw Go.Proofs.Ytnmggblhbodfgaa.Com Go.Proofs.Ytnmggblhbodfgaa.P
attribute [local go_sem] max2_int min2_int max_two min_two max_three min_three max_four min_four
theorem DecS.rd {w W W1 : World} {B2 gx gr b gb room p p1 : Nat} {s : ByteArray} {v bv : Value} {rows : List ByteArray} {last out : ByteArray} (h : DecS w B2 gx gr b gb room s v bv rows last out p W) (hR : RdS W1 gr b s p1) (hk : Kp (fun i => i = gr) W W1) : DecS w B2 gx gr b gb room s v bv rows last out p1 W1 :=
  h.next (h.x.take hR hk) (hk.imp (fun _ _ e => .inr (.inl e)))
set_option maxHeartbeats 8000000 in
set_option maxRecDepth 100000 in
theorem lzw_Decode.calls (s : ByteArray) (many m : Int) (r1 : ByteArray) (r2 : Int) (w : World) (h : lzw_Decode.f s many m = some (r1, r2)) :
    Calls Try.prog 9 #[.string s, .int .i64 many, .int .i64 m] w fun e w' => e = .returned (.tuple #[.string r1, .int .i64 r2]) ∧ Below w.heap.size w w' := by
  unfold lzw_Decode.f at h
  by_cases h1 : m < 9
  · rw [if_pos (.inl h1)] at h
    obtain ⟨rfl, rfl⟩ : (⟨#[]⟩ : ByteArray) = r1 ∧ (1 : Int) = r2 := by simpa using h
    have t1 : decide (m < 9) = true := decide_eq_true h1
    clear h h1
    go_enter Try.func9, Try.ntmps9
    go_wp2
    go_ret2
    exact ⟨rfl, Below.refl _ _⟩
  have t1 : decide (m < 9) = false := decide_eq_false h1
  by_cases h2 : 16 < m
  · rw [if_pos (.inr (.inl h2))] at h
    obtain ⟨rfl, rfl⟩ : (⟨#[]⟩ : ByteArray) = r1 ∧ (1 : Int) = r2 := by simpa using h
    have t2 : decide (16 < m) = true := decide_eq_true h2
    clear h h1 h2
    go_enter Try.func9, Try.ntmps9
    go_wp2
    go_ret2
    exact ⟨rfl, Below.refl _ _⟩
  have t2 : decide (16 < m) = false := decide_eq_false h2
  by_cases h3 : many < 0
  · rw [if_pos (.inr (.inr (.inl h3)))] at h
    obtain ⟨rfl, rfl⟩ : (⟨#[]⟩ : ByteArray) = r1 ∧ (1 : Int) = r2 := by simpa using h
    have t3 : decide (many < 0) = true := decide_eq_true h3
    clear h h1 h2 h3
    go_enter Try.func9, Try.ntmps9
    go_wp2
    go_ret2
    exact ⟨rfl, Below.refl _ _⟩
  have t3 : decide (many < 0) = false := decide_eq_false h3
  by_cases h4 : 16777216 < many
  · rw [if_pos (.inr (.inr (.inr h4)))] at h
    obtain ⟨rfl, rfl⟩ : (⟨#[]⟩ : ByteArray) = r1 ∧ (1 : Int) = r2 := by simpa using h
    have t4 : decide (16777216 < many) = true := decide_eq_true h4
    clear h h1 h2 h3 h4
    go_enter Try.func9, Try.ntmps9
    go_wp2
    go_ret2
    exact ⟨rfl, Below.refl _ _⟩
  have t4 : decide (16777216 < many) = false := decide_eq_false h4
  rw [if_neg (by omega)] at h
  by_cases h5 : s.size ≤ 1099511627776
  case neg => rw [if_neg h5] at h; exact absurd h (by simp)
  rw [if_pos h5] at h
  obtain ⟨mn, rfl⟩ : ∃ mn : Nat, many = mn := ⟨many.toNat, by omega⟩
  rw [Int.toNat_natCast] at h
  obtain ⟨room, hroom⟩ : ∃ room, 2 ^ m.toNat = room := ⟨_, rfl⟩
  rw [hroom] at h
  have p1 : (0 ≤ m) = True := eq_true (by omega)
  have hpw : 2 ^ m.toNat ≤ 2 ^ 16 := Nat.pow_le_pow_right (by omega) (by omega)
  have RM := Aside0.mk (show wrap64 (2 ^ min m.toNat 64) = (room : Int) from by
    have e2 : min m.toNat 64 = m.toNat := by omega
    have e3 : (2 : Int) ^ m.toNat = ((2 ^ m.toNat : Nat) : Int) := by simp
    rw [e2, e3, w64 (by omega) (by omega), hroom])
  have HN := Aside0.mk (show s.size ≤ 1099511627776 ∧ mn ≤ 16777216 ∧ room ≤ 65536 from ⟨h5, by omega, by omega⟩)
  have HF := Aside0.mk (show dec (nb s) room mn mn rows0 ⟨#[]⟩ 0 ⟨#[]⟩ = (r1, r2) from Option.some.inj h)
  have HN1 := Aside0.mk (show s.size ≤ 1099511627776 from h5)
  clear h h1 h2 h3 h4 h5 hroom hpw
  go_enter Try.func9, Try.ntmps9
  go_wp2
  refine start_ (n := 8) (S := fun w' => True) (ds := []) #[false, false, false, false, false, false, false, false] (by kernel_rfl) rfl rfl trivial (fun hHeld => ?_)
  refine pure_ (i := 1) (N := some 27) (v := ?_) (a' := ?_) #[false, true, false, false, false, false, false, false] rfl rfl (by kernel_rfl) (fun _ _ _ h => h) (Or.inl ⟨by rfl, ?_⟩) ?_ ?_
  rotate_left
  · intro w'
    go_simp
    with_reducible rfl
  rotate_left
  · simp only [Act.put, List.setIfInBounds_toArray, List.set_cons_zero, List.set_cons_succ, i64_w, i32_w]
    rfl
  refine pure_ (i := 2) (N := some 28) (v := ?_) (a' := ?_) #[false, true, true, false, false, false, false, false] rfl rfl (by kernel_rfl) (fun _ _ _ h => h) (Or.inl ⟨by rfl, ?_⟩) ?_ ?_
  rotate_left
  · intro w'
    go_simp
    with_reducible rfl
  rotate_left
  · simp only [Act.put, List.setIfInBounds_toArray, List.set_cons_zero, List.set_cons_succ, i64_w, i32_w]
    rfl
  refine pure_ (i := 3) (N := some 29) (v := ?_) (a' := ?_) #[false, true, true, true, false, false, false, false] rfl rfl (by kernel_rfl) (fun _ _ _ h => h) (Or.inl ⟨by rfl, ?_⟩) ?_ ?_
  rotate_left
  · intro w'
    go_simp
    with_reducible rfl
  rotate_left
  · simp only [Act.put, List.setIfInBounds_toArray, List.set_cons_zero, List.set_cons_succ, i64_w, i32_w]
    rfl
  refine one_ (i := 0) (N := some 26) #[true, true, true, true, false, false, false, false] rfl rfl (by kernel_rfl) (by decide) (fun K hK => ?_)
  refine goes_ Try.func20 (by kernel_rfl) rfl #[] (by rfl) rfl rfl (by simp only [List.map_toArray, List.map_nil]) ?_
  with_reducible refine (fresh_ok w.drew).mono ?_
  rintro e w2 ⟨A, c, rfl, hR2, hb2⟩
  refine ⟨_, rfl, ?_⟩
  refine hK.out _ _ trivial (fun hHeld => ?_)
  clear hK K
  refine norm_ (a' := ?_) ?_ ?_
  rotate_left
  · show Act.put _ (some 26) _ = _
    simp only [Act.put, List.setIfInBounds_toArray, List.set_cons_zero, List.set_cons_succ, i64_w, i32_w]
    rfl
  refine one_ (i := 4) (N := some 30) #[true, true, true, true, true, false, false, false] rfl rfl (by kernel_rfl) (by decide) (fun K hK => ?_)
  refine goes_ Try.func21 (by kernel_rfl) rfl #[.string s] (by rfl) rfl rfl (by simp only [List.map_toArray, List.map_cons, List.map_nil]; rfl) ?_
  with_reducible refine (New_rd s w2 HN1.out).mono ?_
  rintro e w4 ⟨gr, b, rfl, hD3, hl3, hb3⟩
  refine ⟨_, rfl, ?_⟩
  have E4 := Aside0.mk (dec3a (Kd.R_below hR2 hb3) hb2 hD3 hl3 hb3)
  clear hR2 hb2 hD3 hl3 hb3
  refine hK.out _ _ trivial (fun hHeld => ?_)
  clear hK K
  refine norm_ (a' := ?_) ?_ ?_
  rotate_left
  · show Act.put _ (some 30) _ = _
    simp only [Act.put, List.setIfInBounds_toArray, List.set_cons_zero, List.set_cons_succ, i64_w, i32_w]
    rfl
  refine pure_ (i := 5) (N := some 31) (v := ?_) (a' := ?_) #[true, true, true, true, true, true, false, false] rfl rfl (by kernel_rfl) (fun _ _ _ h => h) (Or.inl ⟨by rfl, ?_⟩) ?_ ?_
  rotate_left
  · intro w'
    go_simp
    with_reducible rfl
  rotate_left
  · simp only [Act.put, List.setIfInBounds_toArray, List.set_cons_zero, List.set_cons_succ, i64_w, i32_w]
    rfl
  refine one_ (i := 6) (N := some 32) #[true, true, true, true, true, true, true, false] rfl rfl (by kernel_rfl) (by decide) (fun K hK => ?_)
  refine value_ (w1 := ?_) (v := ?_) (by rfl) rfl ?_ ?_
  rotate_left 2
  · go_simp
    constructor
    · rfl
    · rfl
  have E5 := Aside0.mk (dec3_box E4.out (.cells #[.slice A 256 c, .int .i64 (wrap64 (2 ^ min m.toNat 64)), .pointer (some ⟨gr, 0, none⟩), .string ⟨#[]⟩] 60 (0, 0)))
  refine hK.out _ _ trivial (fun hHeld => ?_)
  clear hK K
  refine norm_ (a' := ?_) ?_ ?_
  rotate_left
  · show Act.put _ (some 32) _ = _
    simp only [Act.put, List.setIfInBounds_toArray, List.set_cons_zero, List.set_cons_succ, i64_w, i32_w]
    rfl
  refine pure_ (i := 7) (N := some 8) (v := ?_) (a' := ?_) #[true, true, true, true, true, true, true, true] rfl rfl (by kernel_rfl) (fun _ _ _ h => h) (Or.inl ⟨by rfl, ?_⟩) ?_ ?_
  rotate_left
  · intro w'
    go_simp
    with_reducible rfl
  rotate_left
  · simp only [Act.put, List.setIfInBounds_toArray, List.set_cons_zero, List.set_cons_succ, i64_w, i32_w]
    rfl
  refine done_ (by kernel_rfl) ?_
  clear hHeld
  rw [RM.out] at E5 ⊢
  obtain ⟨gx, hgx⟩ : ∃ g, w4.heap.size = g := ⟨_, rfl⟩
  obtain ⟨w5, hw5⟩ : ∃ w5, w4.alloc (.cells #[.slice A 256 c, .int .i64 (room : Int), .pointer (some ⟨gr, 0, none⟩), .string ⟨#[]⟩] 60 (0, 0)) = w5 := ⟨_, rfl⟩
  have E6 := Aside0.mk (show Dec3 w s A c gr w5 ∧ w5.heap[gx]? = some (.cells #[.slice A 256 c, .int .i64 (room : Int), .pointer (some ⟨gr, 0, none⟩), .string ⟨#[]⟩] 60 (0, 0)) ∧ w.heap.size ≤ gx from by
    have h := E5.out
    rw [hw5, hgx] at h
    exact h)
  rw [hw5, hgx]
  clear hw5 hgx E5 E4
  go_wp2_with ((with_reducible refine gate_dst (N := 9) rfl ?_); refine alloc_var rfl rfl infoBld rfl ?_; intro gb w6 G6 X6 B6)
  obtain ⟨b, hb⟩ := decS_start E6.out.1 E6.out.2.1 E6.out.2.2 G6.out X6.out B6.out
  have ES := Aside0.mk hb
  obtain ⟨B2, hB2⟩ : ∃ B2, w5.heap.size = B2 := ⟨_, rfl⟩
  rw [hB2] at ES
  clear E6 G6 X6 B6 hb hB2
  simp only [Act.put, List.setIfInBounds_toArray, List.set_cons_succ, List.set_cons_zero]
  go_loopg [10] mn (fun q v10 w' => ∃ (v bv : Value) (rows : List ByteArray) (last out : ByteArray) (p : Nat),
    Aside0 (mn ≤ out.size + q ∧ p ≤ 8 * s.size ∧ out.size ≤ 16777216 ∧ (out.size = 0 → bv = .slice none 0 0 ∧ out = ⟨#[]⟩) ∧ dec (nb s) room mn q rows last p out = (r1, r2) ∧ DI rows last) ∧ Aside0 (DecS w B2 gx gr b gb room s v bv rows last out p w'))
  case atStart => exact ⟨_, .slice none 0 0, rows0, ⟨#[]⟩, ⟨#[]⟩, 0, ⟨by omega, by omega, Nat.zero_le _, fun _ => ⟨rfl, rfl⟩, HF.out, di_start⟩, ES⟩
  case round =>
    clear ES
    obtain ⟨v, bv, rows, last, out, p, HA, E⟩ := hrel
    by_cases hd : mn ≤ out.size
    · have hf := HA.out.2.2.2.2.1
      rw [dec_done hd] at hf
      have t5 : decide ((out.size : Int) < (mn : Int)) = false := decide_eq_false (by omega)
      have t5n : decide (out.size < mn) = false := decide_eq_false (by omega)
      have t5p : (out.size < mn) = False := eq_false (by omega)
      obtain ⟨lf, hlf⟩ : ∃ lf : Nat, 8 * s.size - p = lf := ⟨_, rfl⟩
      rw [nb_length, hlf] at hf
      by_cases h8 : 8 ≤ lf
      · obtain ⟨rfl, rfl⟩ : (⟨#[]⟩ : ByteArray) = r1 ∧ (4 : Int) = r2 := by rw [if_pos (.inl h8)] at hf; simpa using hf
        have t6 : decide ((8 : Int) ≤ (lf : Int)) = true := decide_eq_true (by omega)
        have t7 : decide ((lf : Int) ≥ 8) = true := decide_eq_true (by omega)
        rw [← hlf] at t6 t7
        clear hf hd h8 hlf
        go_wp2_with (first
          | (go_at_call 22; refine (Len_bl gb B2 bv _ _ E.out.y).mono ?_; rintro e w7 ⟨rfl, hB⟩; rw [bytesOf_length]; have E7 := Aside0.mk (E.out.below hB); clear hB))
        refine start_ (n := 19) (S := fun w' => w'.cell? ⟨gx, 2, none⟩ = some (.pointer (some ⟨gr, 0, none⟩))) (ds := []) #[false, false, false, false, false, false, false, false, false, false, false, false, false, false, false, false, false, false, false] (by kernel_rfl) rfl rfl (((blk_cell E7.out.x.hx 2).trans rfl)) (fun hHeld => ?_)
        refine pure_ (i := 0) (N := some 54) (v := ?_) (a' := ?_) #[true, false, false, false, false, false, false, false, false, false, false, false, false, false, false, false, false, false, false] rfl rfl (by kernel_rfl) (fun _ _ _ h => h) (Or.inl ⟨by rfl, ?_⟩) ?_ ?_
        rotate_left
        · intro w'
          go_simp
          with_reducible rfl
        rotate_left
        · simp only [Act.put, List.setIfInBounds_toArray, List.set_cons_zero, List.set_cons_succ, i64_w, i32_w]
          rfl
        refine pure_ (i := 1) (N := some 55) (v := ?_) (a' := ?_) #[true, true, false, false, false, false, false, false, false, false, false, false, false, false, false, false, false, false, false] rfl rfl (by kernel_rfl) (fun _ _ _ h => h) (Or.inl ⟨by rfl, ?_⟩) ?_ ?_
        rotate_left
        · intro w'
          go_simp
          with_reducible rfl
        rotate_left
        · simp only [Act.put, List.setIfInBounds_toArray, List.set_cons_zero, List.set_cons_succ, i64_w, i32_w]
          rfl
        refine pure_ (i := 2) (N := some 56) (v := ?_) (a' := ?_) #[true, true, true, false, false, false, false, false, false, false, false, false, false, false, false, false, false, false, false] rfl rfl (by kernel_rfl) (fun _ _ _ h => h) (Or.inl ⟨by rfl, ?_⟩) ?_ ?_
        rotate_left
        · intro w'
          go_simp
          with_reducible rfl
        rotate_left
        · simp only [Act.put, List.setIfInBounds_toArray, List.set_cons_zero, List.set_cons_succ, i64_w, i32_w]
          rfl
        refine take_ (i := 3) (N := some 57) (v := ?_) (a' := ?_) #[true, true, true, true, false, false, false, false, false, false, false, false, false, false, false, false, false, false, false] rfl rfl (by kernel_rfl) (fun _ _ _ h => h) (Or.inl ⟨by rfl, ?_⟩) hHeld ?_ ?_
        rotate_left
        · intro w' s0
          go_simp
          with_reducible rfl
        rotate_left
        · simp only [Act.put, List.setIfInBounds_toArray, List.set_cons_zero, List.set_cons_succ, i64_w, i32_w]
          rfl
        refine one_ (i := 4) (N := some 58) #[true, true, true, true, true, false, false, false, false, false, false, false, false, false, false, false, false, false, false] rfl rfl (by kernel_rfl) (by decide) (fun K hK => ?_)
        refine goes_ Try.func25 (by kernel_rfl) rfl #[.pointer (some ⟨gr, 0, none⟩)] (by rfl) rfl rfl (by simp only [List.map_toArray, List.map_cons, List.map_nil]; rfl) ?_
        with_reducible refine (Left_rd (W := w7.drew) (E7.out.below (below_drew (Below.refl _ _))).x.rd HA.out.2.1).mono ?_
        rintro e w8 ⟨rfl, hR8, hK8⟩
        refine ⟨_, rfl, ?_⟩
        have E8 := Aside0.mk ((E7.out.below (below_drew (Below.refl _ _))).rd hR8 hK8)
        clear hR8 hK8
        refine hK.out _ _ (((blk_cell E8.out.x.hx 2).trans rfl)) (fun hHeld => ?_)
        clear hK K
        refine norm_ (a' := ?_) ?_ ?_
        rotate_left
        · show Act.put _ (some 58) _ = _
          simp only [Act.put, List.setIfInBounds_toArray, List.set_cons_zero, List.set_cons_succ, i64_w, i32_w]
          rfl
        refine pure_ (i := 5) (N := some 59) (v := ?_) (a' := ?_) #[true, true, true, true, true, true, false, false, false, false, false, false, false, false, false, false, false, false, false] rfl rfl (by kernel_rfl) (fun _ _ _ h => h) (Or.inl ⟨by rfl, ?_⟩) ?_ ?_
        rotate_left
        · intro w'
          go_simp
          with_reducible rfl
        rotate_left
        · simp only [Act.put, List.setIfInBounds_toArray, List.set_cons_zero, List.set_cons_succ, i64_w, i32_w]
          rfl
        refine pure_ (i := 6) (N := some 60) (v := ?_) (a' := ?_) #[true, true, true, true, true, true, true, false, false, false, false, false, false, false, false, false, false, false, false] rfl rfl (by kernel_rfl) (fun _ _ _ h => h) (Or.inl ⟨by rfl, ?_⟩) ?_ ?_
        rotate_left
        · intro w'
          go_simp
          with_reducible rfl
        rotate_left
        · simp only [Act.put, List.setIfInBounds_toArray, List.set_cons_zero, List.set_cons_succ, i64_w, i32_w]
          rfl
        refine pure_ (i := 7) (N := some 61) (v := undef) (a' := ?_) #[true, true, true, true, true, true, true, true, false, false, false, false, false, false, false, false, false, false, false] rfl rfl (by kernel_rfl) (fun _ _ _ h => h) (Or.inr ⟨by rfl, rfl⟩) ?_ ?_
        rotate_left
        · simp only [Act.put, List.setIfInBounds_toArray, List.set_cons_zero, List.set_cons_succ, i64_w, i32_w]
          rfl
        refine pure_ (i := 8) (N := some 62) (v := undef) (a' := ?_) #[true, true, true, true, true, true, true, true, true, false, false, false, false, false, false, false, false, false, false] rfl rfl (by kernel_rfl) (fun _ _ _ h => h) (Or.inr ⟨by rfl, rfl⟩) ?_ ?_
        rotate_left
        · simp only [Act.put, List.setIfInBounds_toArray, List.set_cons_zero, List.set_cons_succ, i64_w, i32_w]
          rfl
        refine pure_ (i := 9) (N := some 63) (v := undef) (a' := ?_) #[true, true, true, true, true, true, true, true, true, true, false, false, false, false, false, false, false, false, false] rfl rfl (by kernel_rfl) (fun _ _ _ h => h) (Or.inr ⟨by rfl, rfl⟩) ?_ ?_
        rotate_left
        · simp only [Act.put, List.setIfInBounds_toArray, List.set_cons_zero, List.set_cons_succ, i64_w, i32_w]
          rfl
        refine pure_ (i := 10) (N := some 64) (v := undef) (a' := ?_) #[true, true, true, true, true, true, true, true, true, true, true, false, false, false, false, false, false, false, false] rfl rfl (by kernel_rfl) (fun _ _ _ h => h) (Or.inr ⟨by rfl, rfl⟩) ?_ ?_
        rotate_left
        · simp only [Act.put, List.setIfInBounds_toArray, List.set_cons_zero, List.set_cons_succ, i64_w, i32_w]
          rfl
        refine pure_ (i := 11) (N := some 65) (v := undef) (a' := ?_) #[true, true, true, true, true, true, true, true, true, true, true, true, false, false, false, false, false, false, false] rfl rfl (by kernel_rfl) (fun _ _ _ h => h) (Or.inr ⟨by rfl, rfl⟩) ?_ ?_
        rotate_left
        · simp only [Act.put, List.setIfInBounds_toArray, List.set_cons_zero, List.set_cons_succ, i64_w, i32_w]
          rfl
        refine pure_ (i := 12) (N := some 66) (v := undef) (a' := ?_) #[true, true, true, true, true, true, true, true, true, true, true, true, true, false, false, false, false, false, false] rfl rfl (by kernel_rfl) (fun _ _ _ h => h) (Or.inr ⟨by rfl, rfl⟩) ?_ ?_
        rotate_left
        · simp only [Act.put, List.setIfInBounds_toArray, List.set_cons_zero, List.set_cons_succ, i64_w, i32_w]
          rfl
        refine pure_ (i := 13) (N := some 67) (v := undef) (a' := ?_) #[true, true, true, true, true, true, true, true, true, true, true, true, true, true, false, false, false, false, false] rfl rfl (by kernel_rfl) (fun _ _ _ h => h) (Or.inr ⟨by rfl, rfl⟩) ?_ ?_
        rotate_left
        · simp only [Act.put, List.setIfInBounds_toArray, List.set_cons_zero, List.set_cons_succ, i64_w, i32_w]
          rfl
        refine pure_ (i := 14) (N := some 68) (v := undef) (a' := ?_) #[true, true, true, true, true, true, true, true, true, true, true, true, true, true, true, false, false, false, false] rfl rfl (by kernel_rfl) (fun _ _ _ h => h) (Or.inr ⟨by rfl, rfl⟩) ?_ ?_
        rotate_left
        · simp only [Act.put, List.setIfInBounds_toArray, List.set_cons_zero, List.set_cons_succ, i64_w, i32_w]
          rfl
        refine pure_ (i := 15) (N := some 69) (v := undef) (a' := ?_) #[true, true, true, true, true, true, true, true, true, true, true, true, true, true, true, true, false, false, false] rfl rfl (by kernel_rfl) (fun _ _ _ h => h) (Or.inr ⟨by rfl, rfl⟩) ?_ ?_
        rotate_left
        · simp only [Act.put, List.setIfInBounds_toArray, List.set_cons_zero, List.set_cons_succ, i64_w, i32_w]
          rfl
        refine pure_ (i := 16) (N := some 70) (v := undef) (a' := ?_) #[true, true, true, true, true, true, true, true, true, true, true, true, true, true, true, true, true, false, false] rfl rfl (by kernel_rfl) (fun _ _ _ h => h) (Or.inr ⟨by rfl, rfl⟩) ?_ ?_
        rotate_left
        · simp only [Act.put, List.setIfInBounds_toArray, List.set_cons_zero, List.set_cons_succ, i64_w, i32_w]
          rfl
        refine pure_ (i := 17) (N := some 71) (v := undef) (a' := ?_) #[true, true, true, true, true, true, true, true, true, true, true, true, true, true, true, true, true, true, false] rfl rfl (by kernel_rfl) (fun _ _ _ h => h) (Or.inr ⟨by rfl, rfl⟩) ?_ ?_
        rotate_left
        · simp only [Act.put, List.setIfInBounds_toArray, List.set_cons_zero, List.set_cons_succ, i64_w, i32_w]
          rfl
        refine pure_ (i := 18) (N := some 72) (v := ?_) (a' := ?_) #[true, true, true, true, true, true, true, true, true, true, true, true, true, true, true, true, true, true, true] rfl rfl (by kernel_rfl) (fun _ _ _ h => h) (Or.inl ⟨by rfl, ?_⟩) ?_ ?_
        rotate_left
        · intro w'
          go_simp
          with_reducible rfl
        rotate_left
        · simp only [Act.put, List.setIfInBounds_toArray, List.set_cons_zero, List.set_cons_succ, i64_w, i32_w]
          rfl
        refine done_ (by kernel_rfl) ?_
        go_wp2
        go_ret2
        exact ⟨rfl, E8.out.bl⟩
      · have t6 : decide ((8 : Int) ≤ (lf : Int)) = false := decide_eq_false (by omega)
        have t7 : decide ((lf : Int) ≥ 8) = false := decide_eq_false (by omega)
        obtain ⟨pk, hpk⟩ : ∃ pk, rpeek (nb s) p (lf : Int) = pk := ⟨_, rfl⟩
        rw [hpk] at hf
        have HLF := Aside0.mk (And.intro hlf hpk)
        by_cases h9 : pk = 0
        · obtain ⟨rfl, rfl⟩ : out = r1 ∧ (0 : Int) = r2 := by rw [if_neg (by omega)] at hf; simpa using hf
          have t8 : (pk != 0) = false := by rw [h9]; rfl
          clear hf hd h8 h9 hlf hpk
          go_wp2_with (first
            | (go_at_call 22; refine (Len_bl gb B2 bv _ _ E.out.y).mono ?_; rintro e w7 ⟨rfl, hB⟩; rw [bytesOf_length]; have E7 := Aside0.mk (E.out.below hB); clear hB))
          refine start_ (n := 19) (S := fun w' => w'.cell? ⟨gx, 2, none⟩ = some (.pointer (some ⟨gr, 0, none⟩))) (ds := []) #[false, false, false, false, false, false, false, false, false, false, false, false, false, false, false, false, false, false, false] (by kernel_rfl) rfl rfl (((blk_cell E7.out.x.hx 2).trans rfl)) (fun hHeld => ?_)
          refine pure_ (i := 0) (N := some 54) (v := ?_) (a' := ?_) #[true, false, false, false, false, false, false, false, false, false, false, false, false, false, false, false, false, false, false] rfl rfl (by kernel_rfl) (fun _ _ _ h => h) (Or.inl ⟨by rfl, ?_⟩) ?_ ?_
          rotate_left
          · intro w'
            go_simp
            with_reducible rfl
          rotate_left
          · simp only [Act.put, List.setIfInBounds_toArray, List.set_cons_zero, List.set_cons_succ, i64_w, i32_w]
            rfl
          refine pure_ (i := 1) (N := some 55) (v := ?_) (a' := ?_) #[true, true, false, false, false, false, false, false, false, false, false, false, false, false, false, false, false, false, false] rfl rfl (by kernel_rfl) (fun _ _ _ h => h) (Or.inl ⟨by rfl, ?_⟩) ?_ ?_
          rotate_left
          · intro w'
            go_simp
            with_reducible rfl
          rotate_left
          · simp only [Act.put, List.setIfInBounds_toArray, List.set_cons_zero, List.set_cons_succ, i64_w, i32_w]
            rfl
          refine pure_ (i := 2) (N := some 56) (v := ?_) (a' := ?_) #[true, true, true, false, false, false, false, false, false, false, false, false, false, false, false, false, false, false, false] rfl rfl (by kernel_rfl) (fun _ _ _ h => h) (Or.inl ⟨by rfl, ?_⟩) ?_ ?_
          rotate_left
          · intro w'
            go_simp
            with_reducible rfl
          rotate_left
          · simp only [Act.put, List.setIfInBounds_toArray, List.set_cons_zero, List.set_cons_succ, i64_w, i32_w]
            rfl
          refine take_ (i := 3) (N := some 57) (v := ?_) (a' := ?_) #[true, true, true, true, false, false, false, false, false, false, false, false, false, false, false, false, false, false, false] rfl rfl (by kernel_rfl) (fun _ _ _ h => h) (Or.inl ⟨by rfl, ?_⟩) hHeld ?_ ?_
          rotate_left
          · intro w' s0
            go_simp
            with_reducible rfl
          rotate_left
          · simp only [Act.put, List.setIfInBounds_toArray, List.set_cons_zero, List.set_cons_succ, i64_w, i32_w]
            rfl
          refine one_ (i := 4) (N := some 58) #[true, true, true, true, true, false, false, false, false, false, false, false, false, false, false, false, false, false, false] rfl rfl (by kernel_rfl) (by decide) (fun K hK => ?_)
          refine goes_ Try.func25 (by kernel_rfl) rfl #[.pointer (some ⟨gr, 0, none⟩)] (by rfl) rfl rfl (by simp only [List.map_toArray, List.map_cons, List.map_nil]; rfl) ?_
          with_reducible refine (Left_rd (W := w7.drew) (E7.out.below (below_drew (Below.refl _ _))).x.rd HA.out.2.1).mono ?_
          rintro e w8 ⟨rfl, hR8, hK8⟩
          refine ⟨_, rfl, ?_⟩
          have E8 := Aside0.mk ((E7.out.below (below_drew (Below.refl _ _))).rd hR8 hK8)
          rw [HLF.out.1]
          clear hR8 hK8
          refine hK.out _ _ (((blk_cell E8.out.x.hx 2).trans rfl)) (fun hHeld => ?_)
          clear hK K
          refine norm_ (a' := ?_) ?_ ?_
          rotate_left
          · show Act.put _ (some 58) _ = _
            simp only [Act.put, List.setIfInBounds_toArray, List.set_cons_zero, List.set_cons_succ, i64_w, i32_w]
            rfl
          refine pure_ (i := 5) (N := some 59) (v := ?_) (a' := ?_) #[true, true, true, true, true, true, false, false, false, false, false, false, false, false, false, false, false, false, false] rfl rfl (by kernel_rfl) (fun _ _ _ h => h) (Or.inl ⟨by rfl, ?_⟩) ?_ ?_
          rotate_left
          · intro w'
            go_simp
            with_reducible rfl
          rotate_left
          · simp only [Act.put, List.setIfInBounds_toArray, List.set_cons_zero, List.set_cons_succ, i64_w, i32_w]
            rfl
          refine pure_ (i := 6) (N := some 60) (v := ?_) (a' := ?_) #[true, true, true, true, true, true, true, false, false, false, false, false, false, false, false, false, false, false, false] rfl rfl (by kernel_rfl) (fun _ _ _ h => h) (Or.inl ⟨by rfl, ?_⟩) ?_ ?_
          rotate_left
          · intro w'
            go_simp
            with_reducible rfl
          rotate_left
          · simp only [Act.put, List.setIfInBounds_toArray, List.set_cons_zero, List.set_cons_succ, i64_w, i32_w]
            rfl
          refine pure_ (i := 7) (N := some 61) (v := ?_) (a' := ?_) #[true, true, true, true, true, true, true, true, false, false, false, false, false, false, false, false, false, false, false] rfl rfl (by kernel_rfl) (fun _ _ _ h => h) (Or.inl ⟨by rfl, ?_⟩) ?_ ?_
          rotate_left
          · intro w'
            go_simp
            with_reducible rfl
          rotate_left
          · simp only [Act.put, List.setIfInBounds_toArray, List.set_cons_zero, List.set_cons_succ, i64_w, i32_w]
            rfl
          refine pure_ (i := 8) (N := some 62) (v := ?_) (a' := ?_) #[true, true, true, true, true, true, true, true, true, false, false, false, false, false, false, false, false, false, false] rfl rfl (by kernel_rfl) (fun _ _ _ h => h) (Or.inl ⟨by rfl, ?_⟩) ?_ ?_
          rotate_left
          · intro w'
            go_simp
            with_reducible rfl
          rotate_left
          · simp only [Act.put, List.setIfInBounds_toArray, List.set_cons_zero, List.set_cons_succ, i64_w, i32_w]
            rfl
          refine pure_ (i := 9) (N := some 63) (v := ?_) (a' := ?_) #[true, true, true, true, true, true, true, true, true, true, false, false, false, false, false, false, false, false, false] rfl rfl (by kernel_rfl) (fun _ _ _ h => h) (Or.inl ⟨by rfl, ?_⟩) ?_ ?_
          rotate_left
          · intro w'
            go_simp
            with_reducible rfl
          rotate_left
          · simp only [Act.put, List.setIfInBounds_toArray, List.set_cons_zero, List.set_cons_succ, i64_w, i32_w]
            rfl
          refine pure_ (i := 11) (N := some 65) (v := ?_) (a' := ?_) #[true, true, true, true, true, true, true, true, true, true, false, true, false, false, false, false, false, false, false] rfl rfl (by kernel_rfl) (fun _ _ _ h => h) (Or.inl ⟨by rfl, ?_⟩) ?_ ?_
          rotate_left
          · intro w'
            go_simp
            with_reducible rfl
          rotate_left
          · simp only [Act.put, List.setIfInBounds_toArray, List.set_cons_zero, List.set_cons_succ, i64_w, i32_w]
            rfl
          refine pure_ (i := 12) (N := some 66) (v := ?_) (a' := ?_) #[true, true, true, true, true, true, true, true, true, true, false, true, true, false, false, false, false, false, false] rfl rfl (by kernel_rfl) (fun _ _ _ h => h) (Or.inl ⟨by rfl, ?_⟩) ?_ ?_
          rotate_left
          · intro w'
            go_simp
            with_reducible rfl
          rotate_left
          · simp only [Act.put, List.setIfInBounds_toArray, List.set_cons_zero, List.set_cons_succ, i64_w, i32_w]
            rfl
          refine pure_ (i := 13) (N := some 67) (v := ?_) (a' := ?_) #[true, true, true, true, true, true, true, true, true, true, false, true, true, true, false, false, false, false, false] rfl rfl (by kernel_rfl) (fun _ _ _ h => h) (Or.inl ⟨by rfl, ?_⟩) ?_ ?_
          rotate_left
          · intro w'
            go_simp
            with_reducible rfl
          rotate_left
          · simp only [Act.put, List.setIfInBounds_toArray, List.set_cons_zero, List.set_cons_succ, i64_w, i32_w]
            rfl
          refine take_ (i := 10) (N := some 64) (v := ?_) (a' := ?_) #[true, true, true, true, true, true, true, true, true, true, true, true, true, true, false, false, false, false, false] rfl rfl (by kernel_rfl) (fun _ _ _ h => h) (Or.inl ⟨by rfl, ?_⟩) hHeld ?_ ?_
          rotate_left
          · intro w' s0
            go_simp
            with_reducible rfl
          rotate_left
          · simp only [Act.put, List.setIfInBounds_toArray, List.set_cons_zero, List.set_cons_succ, i64_w, i32_w]
            rfl
          refine take_ (i := 14) (N := some 68) (v := ?_) (a' := ?_) #[true, true, true, true, true, true, true, true, true, true, true, true, true, true, true, false, false, false, false] rfl rfl (by kernel_rfl) (fun _ _ _ h => h) (Or.inl ⟨by rfl, ?_⟩) hHeld ?_ ?_
          rotate_left
          · intro w' s0
            go_simp
            with_reducible rfl
          rotate_left
          · simp only [Act.put, List.setIfInBounds_toArray, List.set_cons_zero, List.set_cons_succ, i64_w, i32_w]
            rfl
          refine one_ (i := 15) (N := some 69) #[true, true, true, true, true, true, true, true, true, true, true, true, true, true, true, true, false, false, false] rfl rfl (by kernel_rfl) (by decide) (fun K hK => ?_)
          refine goes_ Try.func25 (by kernel_rfl) rfl #[.pointer (some ⟨gr, 0, none⟩)] (by rfl) rfl rfl (by simp only [List.map_toArray, List.map_cons, List.map_nil]; rfl) ?_
          with_reducible refine (Left_rd (W := w8) E8.out.x.rd HA.out.2.1).mono ?_
          rintro e w9 ⟨rfl, hR9, hK9⟩
          refine ⟨_, rfl, ?_⟩
          have E9 := Aside0.mk (E8.out.rd hR9 hK9)
          rw [HLF.out.1]
          clear hR9 hK9
          refine hK.out _ _ (((blk_cell E9.out.x.hx 2).trans rfl)) (fun hHeld => ?_)
          clear hK K
          refine norm_ (a' := ?_) ?_ ?_
          rotate_left
          · show Act.put _ (some 69) _ = _
            simp only [Act.put, List.setIfInBounds_toArray, List.set_cons_zero, List.set_cons_succ, i64_w, i32_w]
            rfl
          refine one_ (i := 16) (N := some 70) #[true, true, true, true, true, true, true, true, true, true, true, true, true, true, true, true, true, false, false] rfl rfl (by kernel_rfl) (by decide) (fun K hK => ?_)
          refine goes_ Try.func26 (by kernel_rfl) rfl #[.pointer (some ⟨gr, 0, none⟩), .int .i64 (lf : Int)] (by rfl) rfl rfl (by simp only [List.map_toArray, List.map_cons, List.map_nil]; rfl) ?_
          with_reducible refine (Peek_rd (W := w9) (lf : Int) E9.out.x.rd HA.out.2.1).mono ?_
          rintro e w10 ⟨rfl, hR10, hK10⟩
          refine ⟨_, rfl, ?_⟩
          have E10 := Aside0.mk (E9.out.rd hR10 hK10)
          rw [HLF.out.2]
          clear hR10 hK10
          refine hK.out _ _ (((blk_cell E10.out.x.hx 2).trans rfl)) (fun hHeld => ?_)
          clear hK K
          refine norm_ (a' := ?_) ?_ ?_
          rotate_left
          · show Act.put _ (some 70) _ = _
            simp only [Act.put, List.setIfInBounds_toArray, List.set_cons_zero, List.set_cons_succ, i64_w, i32_w]
            rfl
          refine pure_ (i := 17) (N := some 71) (v := ?_) (a' := ?_) #[true, true, true, true, true, true, true, true, true, true, true, true, true, true, true, true, true, true, false] rfl rfl (by kernel_rfl) (fun _ _ _ h => h) (Or.inl ⟨by rfl, ?_⟩) ?_ ?_
          rotate_left
          · intro w'
            go_simp
            with_reducible rfl
          rotate_left
          · simp only [Act.put, List.setIfInBounds_toArray, List.set_cons_zero, List.set_cons_succ, i64_w, i32_w]
            rfl
          refine pure_ (i := 18) (N := some 72) (v := ?_) (a' := ?_) #[true, true, true, true, true, true, true, true, true, true, true, true, true, true, true, true, true, true, true] rfl rfl (by kernel_rfl) (fun _ _ _ h => h) (Or.inl ⟨by rfl, ?_⟩) ?_ ?_
          rotate_left
          · intro w'
            go_simp
            with_reducible rfl
          rotate_left
          · simp only [Act.put, List.setIfInBounds_toArray, List.set_cons_zero, List.set_cons_succ, i64_w, i32_w]
            rfl
          refine done_ (by kernel_rfl) ?_
          by_cases h0 : out.size = 0
          · obtain ⟨rfl, rfl⟩ := HA.out.2.2.2.1 h0
            clear h0
            go_wp2_with (first
              | (go_at_call 27; refine (Str_nil gb B2 _ E10.out.y).mono ?_; rintro e w11 ⟨rfl, hB⟩; have B11 := Aside0.mk (below_step E10.out.bl hB); clear hB))
            go_ret2
            exact ⟨rfl, B11.out⟩
          · have H0 := Aside0.mk h0
            clear h0
            go_wp2_with (first
              | (go_at_call 27; refine (Str_ok gb B2 bv out _ E10.out.y H0.out (by have := HA.out; omega)).mono ?_; rintro e w11 ⟨rfl, hB⟩; have B11 := Aside0.mk (below_over E10.out.bl hB E10.out.l2); clear hB))
            go_ret2
            exact ⟨rfl, B11.out⟩
        · obtain ⟨rfl, rfl⟩ : (⟨#[]⟩ : ByteArray) = r1 ∧ (4 : Int) = r2 := by rw [if_pos (.inr h9)] at hf; simpa using hf
          have t8 : (pk != 0) = true := bne_iff_ne.2 h9
          clear hf hd h8 h9 hlf hpk
          go_wp2_with (first
            | (go_at_call 22; refine (Len_bl gb B2 bv _ _ E.out.y).mono ?_; rintro e w7 ⟨rfl, hB⟩; rw [bytesOf_length]; have E7 := Aside0.mk (E.out.below hB); clear hB))
          refine start_ (n := 19) (S := fun w' => w'.cell? ⟨gx, 2, none⟩ = some (.pointer (some ⟨gr, 0, none⟩))) (ds := []) #[false, false, false, false, false, false, false, false, false, false, false, false, false, false, false, false, false, false, false] (by kernel_rfl) rfl rfl (((blk_cell E7.out.x.hx 2).trans rfl)) (fun hHeld => ?_)
          refine pure_ (i := 0) (N := some 54) (v := ?_) (a' := ?_) #[true, false, false, false, false, false, false, false, false, false, false, false, false, false, false, false, false, false, false] rfl rfl (by kernel_rfl) (fun _ _ _ h => h) (Or.inl ⟨by rfl, ?_⟩) ?_ ?_
          rotate_left
          · intro w'
            go_simp
            with_reducible rfl
          rotate_left
          · simp only [Act.put, List.setIfInBounds_toArray, List.set_cons_zero, List.set_cons_succ, i64_w, i32_w]
            rfl
          refine pure_ (i := 1) (N := some 55) (v := ?_) (a' := ?_) #[true, true, false, false, false, false, false, false, false, false, false, false, false, false, false, false, false, false, false] rfl rfl (by kernel_rfl) (fun _ _ _ h => h) (Or.inl ⟨by rfl, ?_⟩) ?_ ?_
          rotate_left
          · intro w'
            go_simp
            with_reducible rfl
          rotate_left
          · simp only [Act.put, List.setIfInBounds_toArray, List.set_cons_zero, List.set_cons_succ, i64_w, i32_w]
            rfl
          refine pure_ (i := 2) (N := some 56) (v := ?_) (a' := ?_) #[true, true, true, false, false, false, false, false, false, false, false, false, false, false, false, false, false, false, false] rfl rfl (by kernel_rfl) (fun _ _ _ h => h) (Or.inl ⟨by rfl, ?_⟩) ?_ ?_
          rotate_left
          · intro w'
            go_simp
            with_reducible rfl
          rotate_left
          · simp only [Act.put, List.setIfInBounds_toArray, List.set_cons_zero, List.set_cons_succ, i64_w, i32_w]
            rfl
          refine take_ (i := 3) (N := some 57) (v := ?_) (a' := ?_) #[true, true, true, true, false, false, false, false, false, false, false, false, false, false, false, false, false, false, false] rfl rfl (by kernel_rfl) (fun _ _ _ h => h) (Or.inl ⟨by rfl, ?_⟩) hHeld ?_ ?_
          rotate_left
          · intro w' s0
            go_simp
            with_reducible rfl
          rotate_left
          · simp only [Act.put, List.setIfInBounds_toArray, List.set_cons_zero, List.set_cons_succ, i64_w, i32_w]
            rfl
          refine one_ (i := 4) (N := some 58) #[true, true, true, true, true, false, false, false, false, false, false, false, false, false, false, false, false, false, false] rfl rfl (by kernel_rfl) (by decide) (fun K hK => ?_)
          refine goes_ Try.func25 (by kernel_rfl) rfl #[.pointer (some ⟨gr, 0, none⟩)] (by rfl) rfl rfl (by simp only [List.map_toArray, List.map_cons, List.map_nil]; rfl) ?_
          with_reducible refine (Left_rd (W := w7.drew) (E7.out.below (below_drew (Below.refl _ _))).x.rd HA.out.2.1).mono ?_
          rintro e w8 ⟨rfl, hR8, hK8⟩
          refine ⟨_, rfl, ?_⟩
          have E8 := Aside0.mk ((E7.out.below (below_drew (Below.refl _ _))).rd hR8 hK8)
          rw [HLF.out.1]
          clear hR8 hK8
          refine hK.out _ _ (((blk_cell E8.out.x.hx 2).trans rfl)) (fun hHeld => ?_)
          clear hK K
          refine norm_ (a' := ?_) ?_ ?_
          rotate_left
          · show Act.put _ (some 58) _ = _
            simp only [Act.put, List.setIfInBounds_toArray, List.set_cons_zero, List.set_cons_succ, i64_w, i32_w]
            rfl
          refine pure_ (i := 5) (N := some 59) (v := ?_) (a' := ?_) #[true, true, true, true, true, true, false, false, false, false, false, false, false, false, false, false, false, false, false] rfl rfl (by kernel_rfl) (fun _ _ _ h => h) (Or.inl ⟨by rfl, ?_⟩) ?_ ?_
          rotate_left
          · intro w'
            go_simp
            with_reducible rfl
          rotate_left
          · simp only [Act.put, List.setIfInBounds_toArray, List.set_cons_zero, List.set_cons_succ, i64_w, i32_w]
            rfl
          refine pure_ (i := 6) (N := some 60) (v := ?_) (a' := ?_) #[true, true, true, true, true, true, true, false, false, false, false, false, false, false, false, false, false, false, false] rfl rfl (by kernel_rfl) (fun _ _ _ h => h) (Or.inl ⟨by rfl, ?_⟩) ?_ ?_
          rotate_left
          · intro w'
            go_simp
            with_reducible rfl
          rotate_left
          · simp only [Act.put, List.setIfInBounds_toArray, List.set_cons_zero, List.set_cons_succ, i64_w, i32_w]
            rfl
          refine pure_ (i := 7) (N := some 61) (v := ?_) (a' := ?_) #[true, true, true, true, true, true, true, true, false, false, false, false, false, false, false, false, false, false, false] rfl rfl (by kernel_rfl) (fun _ _ _ h => h) (Or.inl ⟨by rfl, ?_⟩) ?_ ?_
          rotate_left
          · intro w'
            go_simp
            with_reducible rfl
          rotate_left
          · simp only [Act.put, List.setIfInBounds_toArray, List.set_cons_zero, List.set_cons_succ, i64_w, i32_w]
            rfl
          refine pure_ (i := 8) (N := some 62) (v := ?_) (a' := ?_) #[true, true, true, true, true, true, true, true, true, false, false, false, false, false, false, false, false, false, false] rfl rfl (by kernel_rfl) (fun _ _ _ h => h) (Or.inl ⟨by rfl, ?_⟩) ?_ ?_
          rotate_left
          · intro w'
            go_simp
            with_reducible rfl
          rotate_left
          · simp only [Act.put, List.setIfInBounds_toArray, List.set_cons_zero, List.set_cons_succ, i64_w, i32_w]
            rfl
          refine pure_ (i := 9) (N := some 63) (v := ?_) (a' := ?_) #[true, true, true, true, true, true, true, true, true, true, false, false, false, false, false, false, false, false, false] rfl rfl (by kernel_rfl) (fun _ _ _ h => h) (Or.inl ⟨by rfl, ?_⟩) ?_ ?_
          rotate_left
          · intro w'
            go_simp
            with_reducible rfl
          rotate_left
          · simp only [Act.put, List.setIfInBounds_toArray, List.set_cons_zero, List.set_cons_succ, i64_w, i32_w]
            rfl
          refine pure_ (i := 11) (N := some 65) (v := ?_) (a' := ?_) #[true, true, true, true, true, true, true, true, true, true, false, true, false, false, false, false, false, false, false] rfl rfl (by kernel_rfl) (fun _ _ _ h => h) (Or.inl ⟨by rfl, ?_⟩) ?_ ?_
          rotate_left
          · intro w'
            go_simp
            with_reducible rfl
          rotate_left
          · simp only [Act.put, List.setIfInBounds_toArray, List.set_cons_zero, List.set_cons_succ, i64_w, i32_w]
            rfl
          refine pure_ (i := 12) (N := some 66) (v := ?_) (a' := ?_) #[true, true, true, true, true, true, true, true, true, true, false, true, true, false, false, false, false, false, false] rfl rfl (by kernel_rfl) (fun _ _ _ h => h) (Or.inl ⟨by rfl, ?_⟩) ?_ ?_
          rotate_left
          · intro w'
            go_simp
            with_reducible rfl
          rotate_left
          · simp only [Act.put, List.setIfInBounds_toArray, List.set_cons_zero, List.set_cons_succ, i64_w, i32_w]
            rfl
          refine pure_ (i := 13) (N := some 67) (v := ?_) (a' := ?_) #[true, true, true, true, true, true, true, true, true, true, false, true, true, true, false, false, false, false, false] rfl rfl (by kernel_rfl) (fun _ _ _ h => h) (Or.inl ⟨by rfl, ?_⟩) ?_ ?_
          rotate_left
          · intro w'
            go_simp
            with_reducible rfl
          rotate_left
          · simp only [Act.put, List.setIfInBounds_toArray, List.set_cons_zero, List.set_cons_succ, i64_w, i32_w]
            rfl
          refine take_ (i := 10) (N := some 64) (v := ?_) (a' := ?_) #[true, true, true, true, true, true, true, true, true, true, true, true, true, true, false, false, false, false, false] rfl rfl (by kernel_rfl) (fun _ _ _ h => h) (Or.inl ⟨by rfl, ?_⟩) hHeld ?_ ?_
          rotate_left
          · intro w' s0
            go_simp
            with_reducible rfl
          rotate_left
          · simp only [Act.put, List.setIfInBounds_toArray, List.set_cons_zero, List.set_cons_succ, i64_w, i32_w]
            rfl
          refine take_ (i := 14) (N := some 68) (v := ?_) (a' := ?_) #[true, true, true, true, true, true, true, true, true, true, true, true, true, true, true, false, false, false, false] rfl rfl (by kernel_rfl) (fun _ _ _ h => h) (Or.inl ⟨by rfl, ?_⟩) hHeld ?_ ?_
          rotate_left
          · intro w' s0
            go_simp
            with_reducible rfl
          rotate_left
          · simp only [Act.put, List.setIfInBounds_toArray, List.set_cons_zero, List.set_cons_succ, i64_w, i32_w]
            rfl
          refine one_ (i := 15) (N := some 69) #[true, true, true, true, true, true, true, true, true, true, true, true, true, true, true, true, false, false, false] rfl rfl (by kernel_rfl) (by decide) (fun K hK => ?_)
          refine goes_ Try.func25 (by kernel_rfl) rfl #[.pointer (some ⟨gr, 0, none⟩)] (by rfl) rfl rfl (by simp only [List.map_toArray, List.map_cons, List.map_nil]; rfl) ?_
          with_reducible refine (Left_rd (W := w8) E8.out.x.rd HA.out.2.1).mono ?_
          rintro e w9 ⟨rfl, hR9, hK9⟩
          refine ⟨_, rfl, ?_⟩
          have E9 := Aside0.mk (E8.out.rd hR9 hK9)
          rw [HLF.out.1]
          clear hR9 hK9
          refine hK.out _ _ (((blk_cell E9.out.x.hx 2).trans rfl)) (fun hHeld => ?_)
          clear hK K
          refine norm_ (a' := ?_) ?_ ?_
          rotate_left
          · show Act.put _ (some 69) _ = _
            simp only [Act.put, List.setIfInBounds_toArray, List.set_cons_zero, List.set_cons_succ, i64_w, i32_w]
            rfl
          refine one_ (i := 16) (N := some 70) #[true, true, true, true, true, true, true, true, true, true, true, true, true, true, true, true, true, false, false] rfl rfl (by kernel_rfl) (by decide) (fun K hK => ?_)
          refine goes_ Try.func26 (by kernel_rfl) rfl #[.pointer (some ⟨gr, 0, none⟩), .int .i64 (lf : Int)] (by rfl) rfl rfl (by simp only [List.map_toArray, List.map_cons, List.map_nil]; rfl) ?_
          with_reducible refine (Peek_rd (W := w9) (lf : Int) E9.out.x.rd HA.out.2.1).mono ?_
          rintro e w10 ⟨rfl, hR10, hK10⟩
          refine ⟨_, rfl, ?_⟩
          have E10 := Aside0.mk (E9.out.rd hR10 hK10)
          rw [HLF.out.2]
          clear hR10 hK10
          refine hK.out _ _ (((blk_cell E10.out.x.hx 2).trans rfl)) (fun hHeld => ?_)
          clear hK K
          refine norm_ (a' := ?_) ?_ ?_
          rotate_left
          · show Act.put _ (some 70) _ = _
            simp only [Act.put, List.setIfInBounds_toArray, List.set_cons_zero, List.set_cons_succ, i64_w, i32_w]
            rfl
          refine pure_ (i := 17) (N := some 71) (v := ?_) (a' := ?_) #[true, true, true, true, true, true, true, true, true, true, true, true, true, true, true, true, true, true, false] rfl rfl (by kernel_rfl) (fun _ _ _ h => h) (Or.inl ⟨by rfl, ?_⟩) ?_ ?_
          rotate_left
          · intro w'
            go_simp
            with_reducible rfl
          rotate_left
          · simp only [Act.put, List.setIfInBounds_toArray, List.set_cons_zero, List.set_cons_succ, i64_w, i32_w]
            rfl
          refine pure_ (i := 18) (N := some 72) (v := ?_) (a' := ?_) #[true, true, true, true, true, true, true, true, true, true, true, true, true, true, true, true, true, true, true] rfl rfl (by kernel_rfl) (fun _ _ _ h => h) (Or.inl ⟨by rfl, ?_⟩) ?_ ?_
          rotate_left
          · intro w'
            go_simp
            with_reducible rfl
          rotate_left
          · simp only [Act.put, List.setIfInBounds_toArray, List.set_cons_zero, List.set_cons_succ, i64_w, i32_w]
            rfl
          refine done_ (by kernel_rfl) ?_
          go_wp2
          go_ret2
          exact ⟨rfl, E10.out.bl⟩
    · have t5 : decide ((out.size : Int) < (mn : Int)) = true := decide_eq_true (by omega)
      have t5n : decide (out.size < mn) = true := decide_eq_true (by omega)
      have t5p : (out.size < mn) = True := eq_true (by omega)
      cases gk with
      | zero => exact absurd HA.out.1 (by omega)
      | succ q =>
        have hf := HA.out.2.2.2.2.1
        rw [dec_more hd] at hf
        have HD := Aside0.mk hd
        have e7 : wrap64 ((mn : Int) - (out.size : Int)) = (mn : Int) - (out.size : Int) := w64 (by have := HN.out; omega) (by have := HN.out; omega)
        clear hd
        obtain ⟨row, er, hre⟩ : ∃ (row : ByteArray) (er : Int), (nxt (nb s) room rows last p).1 = (row, er) := ⟨_, _, rfl⟩
        by_cases he : er = 0
        · subst he
          have hdi := nxt_di HA.out.2.2.2.2.2 HN.out.2.2 (by rw [hre])
          rw [if_neg (by rw [hre]; simp), hre] at hf
          rw [hre] at hdi
          simp only at hf hdi
          by_cases hl : mn - out.size < row.size
          · obtain ⟨rfl, rfl⟩ : (⟨#[]⟩ : ByteArray) = r1 ∧ (4 : Int) = r2 := by rw [if_pos hl] at hf; simpa using hf
            have t8 : decide ((mn : Int) - (out.size : Int) < (row.size : Int)) = true := decide_eq_true (by have := HD.out; omega)
            have HRE := Aside0.mk hre
            clear hf hl hdi hre
            go_wp2_with (first
              | (go_at_call 22; refine (Len_bl gb B2 bv _ _ E.out.y).mono ?_; rintro e w7 ⟨rfl, hB⟩; rw [bytesOf_length]; have E7 := Aside0.mk (E.out.below hB); clear hB E)
              | (go_at_call 23; refine (next_ok w.heap.size gx gr b room s v rows last p _ E7.out.x HA.out.2.1 E7.out.bl.size HA.out.2.2.2.2.2).mono ?_; rintro e w8 ⟨r8, er8, rfl, hr8, hK8, hn8⟩; obtain ⟨rfl, rfl⟩ : row = r8 ∧ 0 = er8 := Prod.mk.inj (HRE.out.symm.trans hr8); obtain ⟨v8, p8, hp8, hq8, hX8, hv8⟩ := hn8 rfl; have E8 := Aside0.mk (E7.out.next hX8 hK8); clear hr8 hK8 hn8 hX8 hv8 E7)
              | (go_at_call 22; refine (Len_bl gb B2 bv _ _ E8.out.y).mono ?_; rintro e w9 ⟨rfl, hB⟩; rw [bytesOf_length]; have E9 := Aside0.mk (E8.out.below hB); clear hB))
            go_ret2
            exact ⟨rfl, E9.out.bl⟩
          · rw [if_neg hl] at hf
            have t8 : decide ((mn : Int) - (out.size : Int) < (row.size : Int)) = false := decide_eq_false (by have := HD.out; omega)
            have HRE := Aside0.mk hre
            have HL := Aside0.mk hl
            have HF2 := Aside0.mk (And.intro hf hdi)
            clear hf hl hdi hre
            go_wp2_with (first
              | (go_at_call 22; refine (Len_bl gb B2 bv _ _ E.out.y).mono ?_; rintro e w7 ⟨rfl, hB⟩; rw [bytesOf_length]; have E7 := Aside0.mk (E.out.below hB); clear hB E)
              | (go_at_call 23; refine (next_ok w.heap.size gx gr b room s v rows last p _ E7.out.x HA.out.2.1 E7.out.bl.size HA.out.2.2.2.2.2).mono ?_; rintro e w8 ⟨r8, er8, rfl, hr8, hK8, hn8⟩; obtain ⟨rfl, rfl⟩ : row = r8 ∧ 0 = er8 := Prod.mk.inj (HRE.out.symm.trans hr8); obtain ⟨v8, p8, hp8, hq8, hX8, hv8⟩ := hn8 rfl; have P8 := Aside0.mk (And.intro hp8 hq8); have E8 := Aside0.mk (E7.out.next hX8 hK8); clear hr8 hK8 hn8 hX8 hv8 hp8 hq8 E7)
              | (go_at_call 22; refine (Len_bl gb B2 bv _ _ E8.out.y).mono ?_; rintro e w9 ⟨rfl, hB⟩; rw [bytesOf_length]; have E9 := Aside0.mk (E8.out.below hB); clear hB)
              | (go_at_call 24; refine (Write_ok gb B2 bv (bytesOf out) row _ E9.out.y (by rw [bytesOf_length]; have := HA.out; have := HF2.out.2.2.2.2; omega)).mono ?_; rintro e w10 ⟨bv10, rfl, hY, hK⟩; have E10 := Aside0.mk (E9.out.write (out1 := out ++ row) (by rw [bytesOf_append]; exact hY) hK); clear hY hK))
            go_roundg q
            case measure => omega
            case rel => exact ⟨v8, bv10, _, _, out ++ row, p8, ⟨by rw [ByteArray.size_append]; have := HA.out; have := HF2.out.2.2.2.1; omega, P8.out.2, by rw [ByteArray.size_append]; have := HL.out; have := HN.out; have := HD.out; omega, fun h0 => by rw [ByteArray.size_append] at h0; have := HF2.out.2.2.2.1; omega, by have h9 := HF2.out.1; rw [P8.out.1, Int.toNat_natCast] at h9; exact h9, HF2.out.2.1⟩, E10⟩
        · have hr : (⟨#[]⟩, er) = (r1, r2) := by rw [if_pos (by rw [hre]; exact he), hre] at hf; exact hf
          obtain ⟨rfl, rfl⟩ : (⟨#[]⟩ : ByteArray) = r1 ∧ er = r2 := by simpa using hr
          have t8 : (er != 0) = true := bne_iff_ne.2 he
          have HRE := Aside0.mk hre
          clear hf hr he hre
          go_wp2_with (first
            | (go_at_call 22; refine (Len_bl gb B2 bv _ _ E.out.y).mono ?_; rintro e w7 ⟨rfl, hB⟩; rw [bytesOf_length]; have E7 := Aside0.mk (E.out.below hB); clear hB E)
            | (go_at_call 23; refine (next_ok w.heap.size gx gr b room s v rows last p _ E7.out.x HA.out.2.1 E7.out.bl.size HA.out.2.2.2.2.2).mono ?_; rintro e w8 ⟨r8, er8, rfl, hr8, hK8, _⟩; obtain ⟨rfl, rfl⟩ : row = r8 ∧ er = er8 := Prod.mk.inj (HRE.out.symm.trans hr8); have B8 := Aside0.mk (snx_join E7.out hK8); clear hr8 hK8))
          go_ret2
          exact ⟨rfl, B8.out⟩
end Go.Proofs.Ytnmggblhbodfgaa.Hd
