/- The document's next byte (gladstoneref45.next), walked by hand. -/
import Derived.Test.YtfijcedckpkpfaaHRg8
set_option linter.unusedVariables false
set_option linter.unusedSimpArgs false
set_option linter.unusedSectionVars false
namespace Go.Proofs.Ytfijcedckpkpfaa.Hd
open Go.RowKit Go.Proofs.YtfijcedckpkpfaaW.PrintWords Go.Proofs.YtfijcedckpkpfaaW.PrintLast Go.Proofs.YtfijcedckpkpfaaW.PrintMore Go.Proofs.Ytfijcedckpkpfaa.Hw Go.Proofs.Ytfijcedckpkpfaa.Com Go.Proofs.Ytfijcedckpkpfaa.Rn Go.Proofs.Ytfijcedckpkpfaa.P
attribute [local go_sem] max2_int min2_int max_two min_two max_three min_three max_four min_four
def gladstoneref45_next.f (a b x : Int) (s : ByteArray) : Option (Int × Int × Int × ByteArray) := if 0 ≤ x ∧ x < 4294967296 then some (a, b, (nxX x.toNat s : Int), nxS s) else none
theorem zeroR : (Value.agg #[.int .u64 0, .int .u64 0, .int .u64 0, .string ⟨#[]⟩]).cells = #[.int .u64 0, .int .u64 0, .int .u64 0, .string ⟨#[]⟩] := rfl
theorem infoR : (Try.prog.info? 40).map (fun i => (i.zero, i.size, i.bytes)) = some (some (.agg #[.int .u64 0, .int .u64 0, .int .u64 0, .string ⟨#[]⟩]), 4, 40) := by kernel_rfl
theorem sizeR : (Try.prog.info? 40).map (·.size) = some 4 := by kernel_rfl
def RR (W : World) (g : Nat) (a b x : Int) (s : ByteArray) : Prop := W.heap[g]? = some (.cells #[.int .u64 a, .int .u64 b, .int .u64 x, .string s] 40 (0, 0))
theorem RR.set2 {W : World} {g : Nat} {a b x : Int} {s : ByteArray} (h : RR W g a b x s) (y : Int) : RR (W.setCell ⟨g, 2, none⟩ (.int .u64 y)) g a b y s := blk_put h 2 _ (by simp)
theorem RR.set3 {W : World} {g : Nat} {a b x : Int} {s : ByteArray} (h : RR W g a b x s) (y : ByteArray) : RR (W.setCell ⟨g, 3, none⟩ (.string y)) g a b x y := blk_put h 3 _ (by simp)
theorem RR.far {W : World} {g : Nat} {a b x : Int} {s : ByteArray} (h : RR W g a b x s) {p : Addr} (hp : g ≠ p.block) (u : Value) : RR (W.setCell p u) g a b x s := blk_far h hp u
theorem load_RR {ops : Array Oper} {rest : List Oper} {o : Oper} {a : Act} {w : World} {Q : Exit → Act → World → Prop} (hgd : o.guard = none) (x : Operand) (ho : o.op = .load 40 x) (g : Nat) (hx : a.eval x = .pointer (some ⟨g, 0, none⟩)) (a1 b1 x1 : Int) (s1 : ByteArray) (hg : RR w g a1 b1 x1 s1)
    (h : wpList Try.prog ops Q rest (a.put o.dst (.agg #[.int .u64 a1, .int .u64 b1, .int .u64 x1, .string s1])) w) : wpList Try.prog ops Q (o :: rest) a w :=
  wpList_load_row hgd 40 x ho g hx 40 #[.int .u64 a1, .int .u64 b1, .int .u64 x1, .string s1] (0, 0) _ hg Try.underlying40 rfl sizeR h
theorem store_RR {ops : Array Oper} {rest : List Oper} {o : Oper} {a : Act} {w : World} {Q : Exit → Act → World → Prop} (hgd : o.guard = none) (x y : Operand) (ho : o.op = .store 40 x y) (g : Nat) (hx : a.eval x = .pointer (some ⟨g, 0, none⟩)) (a1 b1 x1 : Int) (s1 : ByteArray) (hy : a.eval y = .agg #[.int .u64 a1, .int .u64 b1, .int .u64 x1, .string s1]) (a0 b0 x0 : Int) (s0 : ByteArray) (hg : RR w g a0 b0 x0 s0)
    (h : ∀ w1, Aside0 (RR w1 g a1 b1 x1 s1) → Aside0 (w.grownBy w1 (some g)) → wpList Try.prog ops Q rest (a.put o.dst undef) w1) : wpList Try.prog ops Q (o :: rest) a w :=
  wpList_store_row hgd 40 x y ho g #[.int .u64 a1, .int .u64 b1, .int .u64 x1, .string s1] hx hy 40 _ hg sizeR rfl (by simp [Value.oneCell']) (h _ ⟨setRow_heap w g _ _ _ _ hg⟩ ⟨grown_row w g _⟩)
theorem ret_RR {tmps : Array Value} {w : World} {g : Nat} {a b x : Int} {s : ByteArray} {fn : Func} {p : Tmp} (h : fn.results = #[.cell p 40]) (hp : tmps.getD p undef = .pointer (some ⟨g, 0, none⟩)) (hg : RR w g a b x s) : (results fn tmps).run Try.prog w = .ok (.agg #[.int .u64 a, .int .u64 b, .int .u64 x, .string s]) w :=
  results_cell_row h tmps w g 40 _ (0, 0) _ hp hg Try.underlying40 rfl sizeR
theorem alloc_any {P : Program} {ops : Array Oper} {rest : List Oper} {o : Oper} {a : Act} {Q : Exit → Act → World → Prop} {W : World} (hgd : o.guard = none) {t : TypeId} {z : Value} {size bytes : Nat} {cs : Array Value} (ho : o.op = .alloc t) (hinfo : (P.info? t).map (fun i => (i.zero, i.size, i.bytes)) = some (some z, size, bytes)) (hc : z.cells = cs)
    (h : ∀ g w1, Aside0 (W.heap.size ≤ g) → Aside0 (w1.heap[g]? = some (.cells cs t (0, 0))) → Aside0 (Below W.heap.size W w1) → wpList P ops Q rest (a.put o.dst (.pointer (some ⟨g, 0, none⟩))) w1) : wpList P ops Q (o :: rest) a W :=
  alloc_event hgd ho hinfo hc (h _ _ ⟨Nat.le_refl _⟩ ⟨blk_new W _⟩ ⟨below_alloc (Below.refl _ _) _⟩)
theorem store_any {P : Program} {ops : Array Oper} {rest : List Oper} {o : Oper} {a : Act} {w : World} {Q : Exit → Act → World → Prop} (hgd : o.guard = none) (ty : TypeId) (x y : Operand) (ho : o.op = .store ty x y)
    (g : Nat) (cells : Array Value) (hx : a.eval x = .pointer (some ⟨g, 0, none⟩)) (hy : a.eval y = .agg cells) (t : TypeId) (old : Array Value) (hg : w.heap[g]? = some (.cells old t (0, 0))) (hi : (P.info? ty).map (·.size) = some cells.size)
    (hold : old.size = cells.size) (h1 : cells.all (·.oneCell') = true)
    (h : ∀ w1, Aside0 (w1.heap[g]? = some (.cells cells t (0, 0))) → Aside0 (w.grownBy w1 (some g)) → wpList P ops Q rest (a.put o.dst undef) w1) : wpList P ops Q (o :: rest) a w :=
  wpList_store_row hgd ty x y ho g cells hx hy t old hg hi hold h1 (h _ ⟨setRow_heap w g _ _ t _ hg⟩ ⟨grown_row w g _⟩)
set_option maxHeartbeats 4000000 in
set_option maxRecDepth 100000 in
theorem gladstoneref45_next.calls (a0_0 : Int) (a0_1 : Int) (a0_2 : Int) (a0_3 : ByteArray) (r1 : Int) (r2 : Int) (r3 : Int) (r4 : ByteArray) (w : World) (h : gladstoneref45_next.f a0_0 a0_1 a0_2 a0_3 = some (r1, r2, r3, r4)) :
    Calls Try.prog 25 #[.agg #[.int .u64 a0_0, .int .u64 a0_1, .int .u64 a0_2, .string a0_3]] w fun e w' => e = .returned (.agg #[.int .u64 r1, .int .u64 r2, .int .u64 r3, .string r4]) ∧ Below w.heap.size w w' := by
  unfold gladstoneref45_next.f at h
  by_cases hx : 0 ≤ a0_2 ∧ a0_2 < 4294967296
  · rw [if_pos hx] at h
    obtain ⟨x, rfl⟩ : ∃ x : Nat, a0_2 = x := ⟨a0_2.toNat, by omega⟩
    simp only [Option.some.injEq, Prod.mk.injEq, Int.toNat_natCast] at h
    obtain ⟨rfl, rfl, rfl, rfl⟩ := h
    have ET : Int.tmod (x : Int) 16777216 = ((x % 16777216 : Nat) : Int) := by rw [Int.tmod_eq_emod_of_nonneg (by omega)]; simp
    have EA := Aside0.mk (show IntKind.u64.wrap (Int.tmod (x : Int) 16777216 * 256) = ((x % 16777216 * 256 : Nat) : Int) by
      rw [ET, wu64 (by omega) (by omega)]; omega)
    by_cases h0 : a0_3.size = 0
    · obtain rfl := empty_of h0
      have e1 : nxX x ⟨#[]⟩ = x % 16777216 * 256 := by unfold nxX; rw [if_pos h0]; rfl
      have e2 : nxS ⟨#[]⟩ = ⟨#[]⟩ := if_pos h0
      rw [e1, e2]
      have EB := Aside0.mk (show IntKind.u64.wrap (IntKind.u64.wrap (Int.tmod (x : Int) 16777216 * 256)) = ((x % 16777216 * 256 : Nat) : Int) by
        rw [EA.out, wu64 (by omega) (by omega)])
      clear hx ET e1 e2 h0
      go_enter Try.func25, Try.ntmps25
      go_wp2_with (first
        | ((with_reducible refine gate_dst (N := 1) rfl ?_); refine box_event ?hg (N := 1) ?hd (cs := #[.int .u64 a0_0, .int .u64 a0_1, .int .u64 x, .string ⟨#[]⟩]) (t := 40) ?hr ?_; (case hd => rfl); (case hg => rfl); (case hr => first | (go_simp; done) | (go_simp; rfl)); intro g1 hg1 w1 hx1 hB1; have R1 := Aside0.mk hx1; have B1 := Aside0.mk hB1; have G1 := Aside0.mk (show w.heap.size ≤ g1 by rw [hg1]; exact Nat.le_refl _); clear hx1 hB1 hg1)
        | ((with_reducible refine gate_dst (N := 2) rfl ?_); refine alloc_any rfl rfl infoR zeroR ?_; intro g2 w2 G2 K2 C2; have B2 := Aside0.mk (below_step B1.out C2.out); have R2 := Aside0.mk (blk_below R1.out C2.out); have R2' := Aside0.mk (show RR w2 g1 a0_0 a0_1 x ⟨#[]⟩ from R2.out); have K2' := Aside0.mk (show RR w2 g2 0 0 0 ⟨#[]⟩ from K2.out); have NE := Aside0.mk (show g1 ≠ g2 from Nat.ne_of_lt (Nat.lt_of_lt_of_le (blk_lt R1.out) G2.out)); have G2' := Aside0.mk (Nat.le_trans B1.out.size G2.out); have hc2 := (blk_cell R2.out 2).trans (rfl : _ = some (Value.int .u64 x)); have hc3 := (blk_cell R2.out 3).trans (rfl : _ = some (Value.string ⟨#[]⟩)); have hf2 := blk_frozen R2.out 2; have hf3 := blk_frozen R2.out 3)
        | ((with_reducible refine gate_dst (N := 23) rfl ?_); refine load_RR rfl (.tmp 1) rfl g1 rfl _ _ _ _ (RR.set2 R2'.out _) ?_)
        | ((with_reducible refine gate_store (t := 40) (p := 2) rfl ?_); refine store_RR rfl (.tmp 2) (.tmp 23) rfl g2 rfl _ _ _ _ rfl _ _ _ _ (RR.far (p := ⟨g1, 2, none⟩) K2'.out NE.out.symm _) ?_; intro w4 K4 E4))
      refine bodyPost_ret (ret_RR rfl rfl K4.out) rfl ?_
      refine ⟨?_, below_grown (below_set B2.out G1.out) E4.out G2'.out (by simpa using B2.out.size)⟩
      simp
    · have e1 : nxX x a0_3 = x % 16777216 * 256 + (bt a0_3 0).toNat := by unfold nxX; rw [if_neg h0]
      have e2 : nxS a0_3 = a0_3.extract 1 a0_3.size := if_neg h0
      rw [e1, e2]
      have hb := bt0_lt a0_3
      have HZ := Aside0.mk (show 0 < a0_3.size by omega)
      have EV := Aside0.mk (show IntKind.u64.wrap ((x : Int) % 16777216 * 256 + IntKind.u64.wrap (bt a0_3 0)) = ((x % 16777216 * 256 + (bt a0_3 0).toNat : Nat) : Int) by
        rw [wu64 (x := bt a0_3 0) (by omega) (by omega), wu64 (by omega) (by omega)]
        omega)
      have t1 : decide (0 < (a0_3.size : Int)) = true := decide_eq_true (by omega)
      have t2 : decide (0 < a0_3.size) = true := decide_eq_true (by omega)
      have p1 : (0 < (a0_3.size : Int)) = True := eq_true (by omega)
      have p2 : (1 ≤ (a0_3.size : Int)) = True := eq_true (by omega)
      have p3 : (0 < a0_3.size) = True := eq_true (by omega)
      have p4 : (1 ≤ a0_3.size) = True := eq_true (by omega)
      clear hx ET e1 e2 h0
      go_enter Try.func25, Try.ntmps25
      go_wp2_with (first
        | ((with_reducible refine gate_dst (N := 1) rfl ?_); refine box_event ?hg (N := 1) ?hd (cs := #[.int .u64 a0_0, .int .u64 a0_1, .int .u64 x, .string a0_3]) (t := 40) ?hr ?_; (case hd => rfl); (case hg => rfl); (case hr => first | (go_simp; done) | (go_simp; rfl)); intro g1 hg1 w1 hx1 hB1; have R1 := Aside0.mk hx1; have B1 := Aside0.mk hB1; have G1 := Aside0.mk (show w.heap.size ≤ g1 by rw [hg1]; exact Nat.le_refl _); clear hx1 hB1 hg1)
        | ((with_reducible refine gate_dst (N := 2) rfl ?_); refine alloc_any rfl rfl infoR zeroR ?_; intro g2 w2 G2 K2 C2; have B2 := Aside0.mk (below_step B1.out C2.out); have R2 := Aside0.mk (blk_below R1.out C2.out); have R2' := Aside0.mk (show RR w2 g1 a0_0 a0_1 x a0_3 from R2.out); have K2' := Aside0.mk (show RR w2 g2 0 0 0 ⟨#[]⟩ from K2.out); have NE := Aside0.mk (show g1 ≠ g2 from Nat.ne_of_lt (Nat.lt_of_lt_of_le (blk_lt R1.out) G2.out)); have G2' := Aside0.mk (Nat.le_trans B1.out.size G2.out); have hc2 := (blk_cell R2.out 2).trans (rfl : _ = some (Value.int .u64 x)); have hc3 := (blk_cell R2.out 3).trans (rfl : _ = some (Value.string a0_3)); have hf2 := blk_frozen R2.out 2; have hf3 := blk_frozen R2.out 3)
        | ((with_reducible refine gate_dst (N := 23) rfl ?_); refine load_RR rfl (.tmp 1) rfl g1 rfl _ _ _ _ (RR.set2 (RR.set3 R2'.out _) _) ?_)
        | ((with_reducible refine gate_store (t := 40) (p := 2) rfl ?_); refine store_RR rfl (.tmp 2) (.tmp 23) rfl g2 rfl _ _ _ _ rfl _ _ _ _ (RR.far (p := ⟨g1, 2, none⟩) (RR.far (p := ⟨g1, 3, none⟩) K2'.out NE.out.symm _) NE.out.symm _) ?_; intro w4 K4 E4))
      refine bodyPost_ret (ret_RR rfl rfl K4.out) rfl ?_
      refine ⟨?_, below_grown (below_set (below_set B2.out G1.out) G1.out) E4.out G2'.out (by simpa using B2.out.size)⟩
      rw [bt0_at a0_3 HZ.out, EV.out]
  · rw [if_neg hx] at h
    cases h
end Go.Proofs.Ytfijcedckpkpfaa.Hd
