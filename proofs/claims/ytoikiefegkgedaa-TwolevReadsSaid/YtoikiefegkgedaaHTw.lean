/- twolev: a code of the first table is put (walked by hand). -/
import Derived.Test.YtoikiefegkgedaaPureTb
import Derived.Test.YtoikiefegkgedaaRec
import Derived.Test.YtoikiefegkgedaaHw
import Derived.Test.YtoikiefegkgedaaPx1
import Derived.BigQuiet
import Derived.StillTailTactics
set_option linter.unusedVariables false
set_option linter.unusedSimpArgs false
set_option linter.unusedSectionVars false
namespace Go.Proofs.Ytoikiefegkgedaa.Hd
open Go Go.RowKit Go.Deep Go.Proofs.YtoikiefegkgedaaW.PrintWords Go.Proofs.YtoikiefegkgedaaW.PrintLast Go.Proofs.YtoikiefegkgedaaW.PrintMore Go.Proofs.Ytoikiefegkgedaa.Hw Go.Proofs.Ytoikiefegkgedaa.Com Go.Proofs.Ytoikiefegkgedaa.Cn Go.Proofs.Ytoikiefegkgedaa.P Go.Proofs.Ytoikiefegkgedaa.Pa Go.Proofs.Ytoikiefegkgedaa.Pure
attribute [local go_sem] max2_int min2_int max_two min_two max_three min_three max_four min_four
attribute [local irreducible] ord pos code tv mb sv lv al Hl
def en3 (p : Ent) : List Value := [.int .i64 (p.1 : Int), .int .i64 (p.2.1 : Int), .bool p.2.2]
/-- A row of n entries, in a block of cap. -/
def RowE (W : World) (b cap n : Nat) (f : Nat → Ent) : Prop := n ≤ cap ∧ cap ≤ maxLen ∧ ∃ F, Rec W b 68 3 cap F ∧ ∀ x, x < n → F x = en3 (f x)
def HdS (W : World) (g b cap n : Nat) (root rest : Int) : Prop := W.heap[g]? = some (.cells #[.int .i64 root, .slice (some ⟨b, 0, none⟩) n cap, .int .i64 rest] 53 (0, 0))
def TwS (W : World) (g b cap n : Nat) (root rest : Int) (f : Nat → Ent) : Prop := HdS W g b cap n root rest ∧ RowE W b cap n f
theorem infoE : (Try.prog.info? 68).map (fun i => (i.zero, i.size, i.bytes)) = some (some (.agg #[.int .i64 0, .int .i64 0, .bool false]), (en3 (0, 0, false)).length, 24) := by kernel_rfl
theorem sizeE : (Try.prog.info? 68).map (·.size) = some 3 := by kernel_rfl
theorem pow_at : ∀ n : Nat, n ≤ 16 → IntKind.i64.wrap (1 * 2 ^ n) = ((2 ^ n : Nat) : Int) := by decide
theorem hsh_of {x : Int} {n M : Nat} (hx : x = (n : Int)) (hn : n ≤ 16) (hM : 2 ^ n = M) : Op.shift BinOp.shl IntKind.i64 1 IntKind.i64 x = pure (.int .i64 (M : Int)) := by
  rw [hx, shift_shl .i64 .i64 1 _ (by omega) (by simp [IntKind.bits]; omega), Int.toNat_natCast, pow_at n hn, hM]
section
variable {W W1 : World} {g b cap n : Nat} {root rest : Int} {f f' : Nat → Ent}
theorem RowE.same (h : RowE W b cap n f) (he : W1.heap[b]? = W.heap[b]?) : RowE W1 b cap n f := by
  obtain ⟨h1, h2, F, h3, h4⟩ := h
  exact ⟨h1, h2, F, h3.same he, h4⟩
theorem RowE.lt (h : RowE W b cap n f) : b < W.heap.size := by obtain ⟨_, _, F, h3, _⟩ := h; exact h3.lt
theorem RowE.below (h : RowE W b cap n f) (hb : Below W.heap.size W W1) : RowE W1 b cap n f := h.same (hb.block b h.lt)
theorem RowE.congr (h : RowE W b cap n f) (e : ∀ x, x < n → f x = f' x) : RowE W b cap n f' := by
  obtain ⟨h1, h2, F, h3, h4⟩ := h
  exact ⟨h1, h2, F, h3, fun x hx => by rw [h4 x hx, e x hx]⟩
theorem RowE.ty (h : RowE W b cap n f) : ∃ C, W.heap[b]? = some (.cells C 68 (0, 0)) := by obtain ⟨_, _, F, h3, _⟩ := h; exact ⟨_, h3⟩
theorem TwS.ne (h : TwS W g b cap n root rest f) : g ≠ b := by obtain ⟨C, hC⟩ := h.2.ty; exact blk_ne h.1 hC (by decide)
theorem TwS.below (h : TwS W g b cap n root rest f) (hb : Below W.heap.size W W1) : TwS W1 g b cap n root rest f := ⟨blk_below h.1 hb, h.2.below hb⟩
theorem TwS.congr (h : TwS W g b cap n root rest f) (e : ∀ x, x < n → f x = f' x) : TwS W g b cap n root rest f' := ⟨h.1, h.2.congr e⟩
theorem TwS.c0 (h : TwS W g b cap n root rest f) : W.cell? ⟨g, 0, none⟩ = some (.int .i64 root) := (blk_cell h.1 0).trans rfl
theorem TwS.c1 (h : TwS W g b cap n root rest f) : W.cell? ⟨g, 1, none⟩ = some (.slice (some ⟨b, 0, none⟩) n cap) := (blk_cell h.1 1).trans rfl
theorem TwS.c2 (h : TwS W g b cap n root rest f) : W.cell? ⟨g, 2, none⟩ = some (.int .i64 rest) := (blk_cell h.1 2).trans rfl
theorem TwS.e0 (h : TwS W g b cap n root rest f) {x : Nat} (hx : x < n) : W.cell? ⟨b, x * 3, none⟩ = some (.int .i64 ((f x).1 : Int)) := by
  obtain ⟨_, h1, _, F, h3, h4⟩ := h
  have := h3.cell (x := x) (j := 0) (by omega) (by decide)
  rw [h4 x hx] at this
  exact this
theorem TwS.e2 (h : TwS W g b cap n root rest f) {x : Nat} (hx : x < n) : W.cell? ⟨b, x * 3 + 2, none⟩ = some (.bool (f x).2.2) := by
  obtain ⟨_, h1, _, F, h3, h4⟩ := h
  have := h3.cell (x := x) (j := 2) (by omega) (by decide)
  rw [h4 x hx] at this
  exact this
theorem TwS.rg (h : TwS W g b cap n root rest f) {x : Nat} (hx : x < n) : W.rangeAt b (x * 3) (en3 (f x)) := by
  obtain ⟨_, h1, _, F, h3, h4⟩ := h
  have := h3.range (x := x) (by omega) (by rw [h4 x hx]; rfl)
  rw [h4 x hx] at this
  exact this
/-- A store of a whole entry. -/
theorem store_tw {P : Program} {ops : Array Oper} {rest' : List Oper} {o : Oper} {a : Act} {Q : Exit → Act → World → Prop} (hgd : o.guard = none) (ty : TypeId) (x y : Operand) (ho : o.op = .store ty x y) (hT : TwS W g b cap n root rest f) (i : Nat) (hi : i < n) (e : Ent) (hx : a.eval x = .pointer (some ⟨b, i * 3, none⟩)) (hy : a.eval y = .agg (en3 e).toArray)
    (hs : (P.info? ty).map (·.size) = some 3)
    (h : ∀ w1, Aside0 (TwS w1 g b cap n root rest (fun z => if z = i then e else f z)) → Aside0 (W.grownBy w1 (some b)) → wpList P ops Q rest' (a.put o.dst undef) w1) : wpList P ops Q (o :: rest') a W := by
  have hne := hT.ne
  obtain ⟨hH, h1, h2, F, h3, h4⟩ := hT
  refine store_rec hgd ty x y ho h3 i (by omega) (en3 e) hx hy hs rfl (by intro v hv; simp [en3] at hv; rcases hv with rfl | rfl | rfl <;> rfl) ?_
  intro w1 R1 E1
  refine h w1 ⟨blk_grown hH E1.out (fun e => hne (Option.some.inj e)), h1, h2, _, R1.out, fun z hz => ?_⟩ E1
  by_cases e : z = i
  · simp only [if_pos e]
  · simp only [if_neg e]; exact h4 z hz
end
set_option maxHeartbeats 8000000 in
set_option maxRecDepth 100000 in
theorem short_calls (g b cap n i nn C r R N T : Nat) (rest : Int) (f : Nat → Ent) (w : World) (hT : TwS w g b cap n (r : Int) rest f) (hr : r ≤ 15) (hR : 2 ^ r = R) (hRn : R ≤ n) (hnn : nn ≤ 16) (hN : 2 ^ nn = N) (hTT : bv (mb C nn) = T) :
    Calls Try.prog 17 #[.pointer (some ⟨g, 0, none⟩), .int .i64 (i : Int), .int .i64 (nn : Int), .int .i64 (C : Int)] w fun e w' => e = .returned (.tuple #[]) ∧ TwS w' g b cap n (r : Int) rest (fun x => if x < R ∧ x % N = T then (i, nn, false) else f x) ∧ ∃ w1, Below w.heap.size w w1 ∧ w1.grownBy w' (some b) := by
  obtain ⟨kt, hkt⟩ := ev_get (turned_ev (C : Int) (nn : Int))
  have hturn : turn (C : Int) (nn : Int) = (bv (mb C nn) : Int) := by
    unfold turn
    rw [if_neg (by omega), Int.toNat_natCast, T_mb]
  rw [hturn, hTT] at hkt
  have hmb := mb_bd C nn
  rw [hTT, hN] at hmb
  have KT := Aside0.mk hkt
  have T0 := Aside0.mk hT
  have hs1 := hsh_of (show (r : Int) = (r : Int) from rfl) (show r ≤ 16 by omega) hR
  have hs2 := hsh_of (show (nn : Int) = (nn : Int) from rfl) hnn hN
  have HB := Aside0.mk (show T < N ∧ 1 ≤ N ∧ N ≤ 65536 ∧ R ≤ 32768 ∧ R ≤ n from by
    refine ⟨hmb, by omega, by rw [← hN]; exact Nat.pow_le_pow_right (n := 2) (by decide) hnn, by rw [← hR]; exact Nat.pow_le_pow_right (n := 2) (by decide) hr, hRn⟩)
  clear hkt hturn hmb hT hr hR hRn hnn hN hTT
  go_enter Try.func17, Try.ntmps17
  go_wp2_with (first
    | (go_at_call 33; (with_reducible refine (canon_Turned.calls kt _ _ _ _ KT.out).mono ?_); rintro e w1 ⟨rfl, hd⟩; have T1 := Aside0.mk (T0.out.below hd.below); have B1 := Aside0.mk hd.below; clear hd))
  have T2 := Aside0.mk (show TwS w1 g b cap n (r : Int) rest (fun x => if x < R ∧ x % N = T ∧ x < T then (i, nn, false) else f x) from T1.out.congr (fun x _ => by
    rw [if_neg]
    rintro ⟨_, h1, h2⟩
    have := Nat.mod_le x N
    omega))
  have G2 := Aside0.mk (show w1.grownBy w1 (some b) from ⟨rfl, rfl, rfl, Nat.le_refl _, fun _ _ _ => rfl⟩)
  clear T0 T1
  go_loopg [8] R (fun q v8 w' => ∃ X : Nat, v8 = .int .i64 (X : Int) ∧ Aside0 (X % N = T ∧ R ≤ X + q ∧ X < R + N + N) ∧ Aside0 (TwS w' g b cap n (r : Int) rest (fun x => if x < R ∧ x % N = T ∧ x < X then (i, nn, false) else f x)) ∧ Aside0 (w1.grownBy w' (some b)))
  case atStart => exact ⟨T, rfl, ⟨Nat.mod_eq_of_lt HB.out.1, by omega, by have := HB.out; omega⟩, T2, G2⟩
  case round =>
    clear T2 G2
    obtain ⟨X, rfl, HY, T3, G3⟩ := hrel
    have hc0 := T3.out.c0
    have hc1 := T3.out.c1
    by_cases hlt : X < R
    · have t3 : decide ((X : Int) < (R : Int)) = true := decide_eq_true (by omega)
      have t4 : decide (X < R) = true := decide_eq_true hlt
      have p3 : (0 ≤ (X : Int)) = True := eq_true (by omega)
      have q3 : ((X : Int) < (n : Int)) = True := eq_true (by have := HB.out; omega)
      have q4 : (X < n) = True := eq_true (by have := HB.out; omega)
      have HLT := Aside0.mk (show X < n by have := HB.out; omega)
      have HLR := Aside0.mk hlt
      cases gk with
      | zero => have := HY.out; omega
      | succ q2 =>
        clear hlt
        go_wp2_with (first
          | ((with_reducible refine gate_store (t := 68) (p := 31) rfl ?_); refine store_tw rfl 68 (.tmp 31) (.tmp 30) rfl T3.out X HLT.out (i, nn, false) ?_ rfl sizeE ?_; (case refine_1 => first | (go_simp; done) | (go_simp; rfl) | rfl); intro w6 T6 E6))
        have G6 := Aside0.mk (gr_step G3.out E6.out)
        go_roundg q2
        case measure => exact Nat.lt_succ_self _
        case rel =>
          refine ⟨X + N, ?_, ⟨?_, by have := HY.out; have := HB.out; omega, by have := HLR.out; omega⟩, ⟨T6.out.congr (fun x hx => ?_)⟩, G6⟩
          · rw [w64 (by omega) (by have := HY.out; have := HB.out; omega)]; rfl
          · rw [Nat.add_mod_right]; exact HY.out.1
          · have hX := HY.out.1
            have hl := HLR.out
            have hN := HB.out.2.1
            by_cases e : x = X
            · subst e
              rw [if_pos rfl, if_pos ⟨hl, hX, by omega⟩]
            · rw [if_neg e]
              by_cases hh : x % N = T
              · by_cases hlt : x < X
                · by_cases hxR : x < R
                  · rw [if_pos ⟨hxR, hh, hlt⟩, if_pos ⟨hxR, hh, by omega⟩]
                  · rw [if_neg (fun h => hxR h.1), if_neg (fun h => hxR h.1)]
                · rw [if_neg (fun h => hlt h.2.2), if_neg]
                  rintro ⟨_, _, h2⟩
                  have a := Nat.div_add_mod x N
                  have b := Nat.div_add_mod X N
                  have c1 : N * (X / N) < N * (x / N) := by omega
                  have c2 : N * (x / N) < N * (X / N + 1) := by rw [Nat.mul_add, Nat.mul_one]; omega
                  have d1 := Nat.lt_of_mul_lt_mul_left c1
                  have d2 := Nat.lt_of_mul_lt_mul_left c2
                  omega
              · rw [if_neg (fun h => hh h.2.1), if_neg (fun h => hh h.2.1)]
    · have t3 : decide ((X : Int) < (R : Int)) = false := decide_eq_false (by omega)
      have t4 : decide (X < R) = false := decide_eq_false hlt
      have HGE := Aside0.mk (show R ≤ X by omega)
      clear hlt
      go_wp2
      first | go_end0 | ((try simp only [Exit.inBlock, Exit.then]); refine bodyPost_ret (results_none rfl _ _ _) rfl ?_)
      refine ⟨rfl, T3.out.congr (fun x hx => ?_), w1, B1.out, G3.out⟩
      have hge := HGE.out
      by_cases h : x < R ∧ x % N = T
      · rw [if_pos h, if_pos ⟨h.1, h.2, by omega⟩]
      · rw [if_neg h, if_neg (fun h' => h ⟨h'.1, h'.2.1⟩)]
end Go.Proofs.Ytoikiefegkgedaa.Hd
/- twolev: a code of the second table is put (walked by hand). -/
namespace Go.Proofs.Ytoikiefegkgedaa.Hd
open Go Go.RowKit Go.Deep Go.Proofs.YtoikiefegkgedaaW.PrintWords Go.Proofs.YtoikiefegkgedaaW.PrintLast Go.Proofs.YtoikiefegkgedaaW.PrintMore Go.Proofs.Ytoikiefegkgedaa.Hw Go.Proofs.Ytoikiefegkgedaa.Com Go.Proofs.Ytoikiefegkgedaa.Cn Go.Proofs.Ytoikiefegkgedaa.P Go.Proofs.Ytoikiefegkgedaa.Pa Go.Proofs.Ytoikiefegkgedaa.Pure
attribute [local go_sem] max2_int min2_int max_two min_two max_three min_three max_four min_four
attribute [local irreducible] ord pos code tv mb sv lv al Hl
theorem rec_of {W : World} {b cap : Nat} {t : TypeId} {C : Array Value} (h : W.heap[b]? = some (.cells C t (0, 0))) (hs : C.size = cap * 3) : Rec W b t 3 cap (fun x => (C.toList.drop (x * 3)).take 3) := by
  unfold Rec
  rw [h]
  congr 2
  refine Array.ext_getElem? (fun j => ?_)
  by_cases hj : j < cap * 3
  · have hm := Nat.mod_lt j (show 0 < 3 by decide)
    have hd := Nat.div_add_mod j 3
    rw [Rt_get hj, List.getD_eq_getElem?_getD, List.getElem?_take, if_pos hm, List.getElem?_drop, show j / 3 * 3 + j % 3 = j by omega, ← Array.getElem?_toList, List.getElem?_eq_getElem (by rw [Array.length_toList, hs]; exact hj)]
    rfl
  · rw [Rt_none hj, Array.getElem?_eq_none_iff, hs]; omega
theorem row_flat {cap n : Nat} {F : Nat → List Value} {x : Nat} (hx : x < n) (hn : n ≤ cap) (hl : (F x).length = 3) (xs ys : List Value) (C : Array Value) (h1 : (Rt 3 cap F).toList.take (n * 3) = xs) (h2 : C.toList.take ((n + ys.length / 3) * 3) = xs ++ ys) : (C.toList.drop (x * 3)).take 3 = F x := by
  refine List.ext_getElem? (fun j => ?_)
  by_cases hj : j < 3
  · have hi := idx_lt hx hj
    have e1 : (C.toList.take ((n + ys.length / 3) * 3))[x * 3 + j]? = C.toList[x * 3 + j]? := by
      rw [List.getElem?_take, if_pos]
      omega
    have e2 : (xs ++ ys)[x * 3 + j]? = (Rt 3 cap F).toList[x * 3 + j]? := by
      have hlen : xs.length = n * 3 := by rw [← h1, List.length_take, Array.length_toList, Rt_size]; omega
      rw [List.getElem?_append_left (by omega), ← h1, List.getElem?_take, if_pos hi]
    rw [List.getElem?_take, if_pos hj, List.getElem?_drop, ← e1, h2, e2, Array.getElem?_toList, Rt_at (by omega) hj, List.getD_eq_getElem?_getD, List.getElem?_eq_getElem (by omega)]
    rfl
  · rw [List.getElem?_eq_none (by rw [List.length_take]; omega), List.getElem?_eq_none (by omega)]
theorem zero_cells (m : Nat) : (Builtin.zeroCells #[.int .i64 0, .int .i64 0, .bool false] m).toList = (Rt 3 m (fun _ => en3 (0, 0, false))).toList := by
  congr 1
  refine Array.ext_getElem? (fun j => ?_)
  by_cases hj : j < m * 3
  · have hm := Nat.mod_lt j (show 0 < 3 by decide)
    rw [Rt_get hj]
    simp only [Builtin.zeroCells, Array.getElem?_map, Array.getElem?_range]
    rw [if_pos (by simpa using hj)]
    have : j % 3 = 0 ∨ j % 3 = 1 ∨ j % 3 = 2 := by omega
    rcases this with e | e | e <;> simp [e, en3]
  · rw [Rt_none hj, Array.getElem?_eq_none_iff]
    simp [Builtin.zeroCells]; omega
section
variable {P : Program} {ops : Array Oper} {Q : Exit → Act → World → Prop}
theorem app_step {o : Oper} {a : Act} {W : World} {Kc : Act → World → Prop} {b cap n m : Nat} {f : Nat → Ent} (hw : Region.wanted o (yielded ops a.tmps) = true) (s x : Operand)
    (ho : o.op = .call { callee := .builtin .append, args := #[s, x], argTypes := #[47, 3] }) (hT : RowE W b cap n f) (hs : a.eval s = .slice (some ⟨b, 0, none⟩) n cap) (hx : a.eval x = .int .i64 (m : Int)) (hm : 0 < m) (hl : (n + m) * 24 ≤ 140737488355328)
    (h : ∀ b' cap' w1, RowE w1 b' cap' (n + m) (fun z => if z < n then f z else (0, 0, false)) → W.grownBy w1 (some b) → (b' = b ∨ b' = W.heap.size) → Kc (a.put o.dst (.slice (some ⟨b', 0, none⟩) (n + m) cap')) w1) :
    if Region.wanted o (yielded ops a.tmps) = true then Oper.wp Try.prog o a W Kc Q else Kc (a.put o.dst undef) W := by
  obtain ⟨h1, h2, F, h3, h4⟩ := hT
  have hfl : ∀ z, z < n → (F z).length = 3 := fun z hz => by rw [h4 z hz]; rfl
  obtain ⟨xs, hxs⟩ : ∃ xs, (Rt 3 cap F).toList.take (n * 3) = xs := ⟨_, rfl⟩
  have hown : W.ownsRow 0 68 3 (.slice (some ⟨b, 0, none⟩) n cap) n xs := by
    refine ⟨by rw [← hxs, List.length_take, Array.length_toList, Rt_size]; omega, .inr ⟨b, cap, _, rfl, Nat.zero_le _, h3, h1, h2, Rt_size, hxs⟩⟩
  obtain ⟨i, hi, hz, hsz, hby⟩ := info_parts infoE
  obtain ⟨v1, w1, hr1, ⟨ho1, ho2⟩, hg, hat⟩ := run_append_zeros (P := Try.prog) W 0 47 3 o.type 68 i (.agg #[.int .i64 0, .int .i64 0, .bool false]) 3 24 Try.underlying47 Try.underlying3 hi hz hsz hby rfl (by decide) (by decide) _ n xs hown .i64 m (by
    intro u hu
    rw [show (Value.agg #[.int .i64 0, .int .i64 0, .bool false]).cells = #[.int .i64 0, .int .i64 0, .bool false] from rfl, zero_cells] at hu
    obtain ⟨j, hj⟩ := List.mem_iff_getElem?.1 hu
    rw [Array.getElem?_toList] at hj
    by_cases hjm : j < m * 3
    · rw [Rt_get hjm] at hj
      have : j % 3 = 0 ∨ j % 3 = 1 ∨ j % 3 = 2 := by omega
      rcases this with e | e | e <;> (rw [e] at hj; simp [en3] at hj; subst hj; rfl)
    · rw [Rt_none hjm] at hj; cases hj) hl (Nat.zero_le _)
  rw [show (Value.agg #[.int .i64 0, .int .i64 0, .bool false]).cells = #[.int .i64 0, .int .i64 0, .bool false] from rfl, zero_cells] at ho1 ho2
  rcases ho2 with ⟨rfl, hn0⟩ | ⟨b', cap', C, rfl, _, hC, hc1, hc2, hc3, hc4⟩
  · omega
  rw [if_pos hw]
  unfold Oper.wp execOp
  simp only [ho, resolve, invoke, builtin, Sem.run_bind, Sem.run_pure, Result.andThen_ok, List.map_toArray, List.map_cons, List.map_nil, hs, hx, hr1]
  have hyl : (Rt 3 m (fun _ => en3 (0, 0, false))).toList.length = m * 3 := by rw [Array.length_toList, Rt_size]
  refine h b' cap' w1 ⟨hc1, hc2, _, rec_of hC hc3, fun z hz => ?_⟩ hg (by
    rcases hat with e | e
    · exact .inl (Option.some.inj e)
    · exact .inr (Option.some.inj e))
  show _ = en3 (if z < n then f z else (0, 0, false))
  by_cases hzn : z < n
  · rw [if_pos hzn, ← h4 z hzn]
    exact row_flat hzn h1 (hfl z hzn) xs _ C hxs (by rw [hyl, Nat.mul_div_cancel _ (by decide)]; exact hc4)
  · rw [if_neg hzn]
    refine List.ext_getElem? (fun j => ?_)
    by_cases hj : j < 3
    · have hlen : xs.length = n * 3 := by rw [← hxs, List.length_take, Array.length_toList, Rt_size]; omega
      have e1 : (C.toList.take ((n + m) * 3))[z * 3 + j]? = C.toList[z * 3 + j]? := by
        rw [List.getElem?_take, if_pos (idx_lt hz hj)]
      rw [List.getElem?_take, if_pos hj, List.getElem?_drop, ← e1, hc4, List.getElem?_append_right (by omega), Array.getElem?_toList]
      have e2 : z * 3 + j - xs.length = (z - n) * 3 + j := by omega
      rw [e2, Rt_at (show z - n < m by omega) hj, List.getD_eq_getElem?_getD, List.getElem?_eq_getElem (by simp [en3]; omega)]
      rfl
    · rw [List.getElem?_eq_none (by rw [List.length_take]; omega), List.getElem?_eq_none (by simp [en3]; omega)]
end
theorem cut_tw {b n cap off : Nat} (h : off ≤ n) (hc : off < cap) : ∀ W, (Instr.slice 47 (.slice (some ⟨b, 0, none⟩) n cap) (some (.int .i64 (off : Int))) none none).run Try.prog W = .ok (.slice (some ⟨b, off * 3, none⟩) (n - off) (cap - off)) W := by
  obtain ⟨i, hi, _, hsz, _⟩ := info_parts infoE
  intro W
  have h1 := cut_from (P := Try.prog) 47 68 .i64 Try.underlying47 hi 3 hsz (some ⟨b, 0, none⟩) n cap (off : Int) (by omega) (by omega) W
  rw [Int.toNat_natCast, if_neg (by omega)] at h1
  have e : ((some (⟨b, 0, none⟩ : Addr)).map (·.add (off * 3))) = some ⟨b, off * 3, none⟩ := by rw [Option.map_some, add_plain]
  rw [e] at h1
  exact h1
theorem and_low (T R r : Nat) (hR : 2 ^ r = R) (hr : r ≤ 32) (hT : T < 65536) : Go.bits .and .i64 (T : Int) (wrap64 ((R : Int) - 1)) = ((T % R : Nat) : Int) := by
  have hp : R ≤ 4294967296 := by rw [← hR]; exact Nat.pow_le_pow_right (n := 2) (by decide) hr
  have h1 : 1 ≤ R := by rw [← hR]; exact Nat.two_pow_pos _
  rw [w64 (by omega) (by omega), show ((R : Int) - 1) = ((2 ^ r - 1 : Nat) : Int) by rw [hR]; omega, (bits_i64 T (2 ^ r - 1) (by omega) (by rw [hR]; omega)).1, Nat.and_two_pow_sub_one_eq_mod, hR]
theorem hshr_of {T R r : Nat} (hr : r ≤ 16) (hR : 2 ^ r = R) : Op.shift BinOp.shr IntKind.i64 (T : Int) IntKind.i64 (r : Int) = pure (.int .i64 ((T / R : Nat) : Int)) := by
  have h := shift_shr .i64 .i64 (T : Int) (r : Int) (by omega) (by simp [IntKind.bits]; omega)
  rw [h, Int.toNat_natCast, ← hR]
  simp
theorem ptr_at {b o X : Nat} {v : Value} (h : v = .pointer (some ⟨b, o * 3 + X * 3, none⟩)) : v = .pointer (some ⟨b, (o + X) * 3, none⟩) := by
  rw [h, Nat.add_mul]
/-- The last steps: the part of the second table. -/
def ptf (off P N2 t2 i nn : Nat) (X : Nat) (f : Nat → Ent) (z : Nat) : Ent := if off ≤ z ∧ z < off + P ∧ (z - off) % N2 = t2 ∧ z - off < X then (i, nn, false) else f z
theorem ptf_step {off P N2 t2 i nn X : Nat} {f : Nat → Ent} (hX : X < P) (ht : X % N2 = t2) (hN : 1 ≤ N2) (z : Nat) : (if z = off + X then (i, nn, false) else ptf off P N2 t2 i nn X f z) = ptf off P N2 t2 i nn (X + N2) f z := by
  unfold ptf
  by_cases e : z = off + X
  · subst e
    rw [if_pos rfl, if_pos ⟨by omega, by omega, by rw [Nat.add_sub_cancel_left]; exact ht, by omega⟩]
  · rw [if_neg e]
    by_cases hh : off ≤ z ∧ z < off + P ∧ (z - off) % N2 = t2
    · by_cases hlt : z - off < X
      · rw [if_pos ⟨hh.1, hh.2.1, hh.2.2, hlt⟩, if_pos ⟨hh.1, hh.2.1, hh.2.2, by omega⟩]
      · rw [if_neg (fun h => hlt h.2.2.2), if_neg]
        rintro ⟨_, _, _, h2⟩
        have a := Nat.div_add_mod (z - off) N2
        have b := Nat.div_add_mod X N2
        have c1 : N2 * (X / N2) < N2 * ((z - off) / N2) := by omega
        have c2 : N2 * ((z - off) / N2) < N2 * (X / N2 + 1) := by rw [Nat.mul_add, Nat.mul_one]; omega
        have d1 := Nat.lt_of_mul_lt_mul_left c1
        have d2 := Nat.lt_of_mul_lt_mul_left c2
        omega
    · rw [if_neg (fun h => hh ⟨h.1, h.2.1, h.2.2.1⟩), if_neg (fun h => hh ⟨h.1, h.2.1, h.2.2.1⟩)]
def pte (off P N2 t2 i nn : Nat) (f : Nat → Ent) (z : Nat) : Ent := if off ≤ z ∧ z < off + P ∧ (z - off) % N2 = t2 then (i, nn, false) else f z
theorem ptf_end {off P N2 t2 i nn X : Nat} {f : Nat → Ent} (hX : P ≤ X) (z : Nat) : ptf off P N2 t2 i nn X f z = pte off P N2 t2 i nn f z := by
  unfold ptf pte
  by_cases hh : off ≤ z ∧ z < off + P ∧ (z - off) % N2 = t2
  · rw [if_pos ⟨hh.1, hh.2.1, hh.2.2, by omega⟩, if_pos hh]
  · rw [if_neg (fun h => hh ⟨h.1, h.2.1, h.2.2.1⟩), if_neg hh]
theorem ptf_start {off P N2 t2 i nn : Nat} {f : Nat → Ent} (z : Nat) : ptf off P N2 t2 i nn t2 f z = f z := by
  unfold ptf
  rw [if_neg]
  rintro ⟨_, _, h, h2⟩
  have := Nat.mod_le (z - off) N2
  omega
def lgf (n P x0 : Nat) (f : Nat → Ent) (z : Nat) : Ent := if z < n then (if z = x0 then (n, 0, true) else f z) else (0, 0, false)
set_option maxHeartbeats 8000000 in
set_option maxRecDepth 100000 in
theorem long_calls (g b cap n i nn C r rs R P T : Nat) (f : Nat → Ent) (w0 w : World) (hT : TwS w g b cap n (r : Int) (rs : Int) f) (hBl : Below w0.heap.size w0 w) (hg : w0.heap.size ≤ g) (hb : w0.heap.size ≤ b)
    (hr : r < nn ∧ nn ≤ r + rs ∧ r + rs ≤ 15) (hR : 2 ^ r = R) (hP : 2 ^ rs = P) (hRn : R ≤ n) (hn : n ≤ 100000000) (hTT : bv (mb C nn) = T)
    (hoff : (f (T % R)).2.2 = true → (f (T % R)).1 + P ≤ n) :
    Calls Try.prog 18 #[.pointer (some ⟨g, 0, none⟩), .int .i64 (i : Int), .int .i64 (nn : Int), .int .i64 (C : Int)] w fun e w' => e = .returned (.tuple #[]) ∧ Below w0.heap.size w0 w' ∧ ∃ b' cap', w0.heap.size ≤ b' ∧
      (((f (T % R)).2.2 = true ∧ TwS w' g b' cap' n (r : Int) (rs : Int) (pte (f (T % R)).1 P (2 ^ (nn - r)) (T / R) i nn f)) ∨
       ((f (T % R)).2.2 = false ∧ TwS w' g b' cap' (n + P) (r : Int) (rs : Int) (pte n P (2 ^ (nn - r)) (T / R) i nn (lgf n P (T % R) f)))) := by
  obtain ⟨kt, hkt⟩ := ev_get (turned_ev (C : Int) (nn : Int))
  have hturn : turn (C : Int) (nn : Int) = (bv (mb C nn) : Int) := by
    unfold turn
    rw [if_neg (by omega), Int.toNat_natCast, T_mb]
  rw [hturn, hTT] at hkt
  have hmb := mb_bd C nn
  rw [hTT] at hmb
  have hT16 : T < 65536 := Nat.lt_of_lt_of_le hmb (Nat.pow_le_pow_right (n := 2) (by decide) (show nn ≤ 16 by omega))
  obtain ⟨N2, hN2⟩ : ∃ N2, 2 ^ (nn - r) = N2 := ⟨_, rfl⟩
  have hdiv : T / R < N2 := by
    rw [Nat.div_lt_iff_lt_mul (by rw [← hR]; exact Nat.two_pow_pos _), ← hN2, ← hR, ← Nat.pow_add, Nat.sub_add_cancel (by omega)]
    exact hmb
  have hNP : N2 ≤ P := by rw [← hN2, ← hP]; exact Nat.pow_le_pow_right (by decide) (by omega)
  rw [hN2]
  have KT := Aside0.mk hkt
  have T0 := Aside0.mk hT
  have B0 := Aside0.mk hBl
  have HG := Aside0.mk (And.intro hg hb)
  have hs1 := hsh_of (show (r : Int) = (r : Int) from rfl) (show r ≤ 16 by omega) hR
  have hs2 := hsh_of (show (rs : Int) = (rs : Int) from rfl) (show rs ≤ 16 by omega) hP
  have hs3 := hsh_of (show ((nn - r : Nat) : Int) = ((nn - r : Nat) : Int) from rfl) (show nn - r ≤ 16 by omega) hN2
  have hw3 : wrap64 ((nn : Int) - (r : Int)) = ((nn - r : Nat) : Int) := by rw [w64 (by omega) (by omega)]; omega
  have hs4 := hshr_of (T := T) (show r ≤ 16 by omega) hR
  have ha := and_low T R r hR (by omega) hT16
  have ha2 : IntKind.i64.wrap ((R : Int) - 1) = wrap64 ((R : Int) - 1) := i64_w _
  have hxR : T % R < n := Nat.lt_of_lt_of_le (Nat.mod_lt _ (by rw [← hR]; exact Nat.two_pow_pos _)) hRn
  obtain ⟨x0, hx0⟩ : ∃ x0, T % R = x0 := ⟨_, rfl⟩
  obtain ⟨t2, ht2⟩ : ∃ t2, T / R = t2 := ⟨_, rfl⟩
  rw [hx0] at ha hxR hoff
  rw [ht2] at hs4 hdiv
  rw [hx0, ht2]
  have HB := Aside0.mk (show t2 < N2 ∧ 1 ≤ N2 ∧ N2 ≤ P ∧ P ≤ 32768 ∧ R ≤ n ∧ x0 < n ∧ n ≤ 100000000 from by
    refine ⟨hdiv, by omega, hNP, by rw [← hP]; exact Nat.pow_le_pow_right (n := 2) (by decide) (show rs ≤ 15 by omega), hRn, hxR, hn⟩)
  have HOFF := Aside0.mk hoff
  clear hkt hturn hmb hT hBl hg hb hr hR hP hRn hn hTT hoff hT16 hN2 hdiv hNP hxR hx0 ht2
  have q1 : (0 ≤ (x0 : Int)) = True := eq_true (by omega)
  have q2 : ((x0 : Int) < (n : Int)) = True := eq_true (by have := HB.out; omega)
  have q3 : (x0 < n) = True := eq_true HB.out.2.2.2.2.2.1
  go_enter Try.func18, Try.ntmps18
  by_cases hfl : (f x0).2.2 = true
  · have HF := Aside0.mk hfl
    obtain ⟨off, hoffe⟩ : ∃ off, (f x0).1 = off := ⟨_, rfl⟩
    have HO := Aside0.mk (show off + P ≤ n by rw [← hoffe]; exact HOFF.out hfl)
    have HE0 := Aside0.mk (show (((f x0).1 : Nat) : Int) = (off : Int) by rw [hoffe])
    have HXN := Aside0.mk HB.out.2.2.2.2.2.1
    have HG2 := Aside0.mk HG.out.2
    obtain ⟨cap', hcap⟩ : ∃ c, cap = c := ⟨_, rfl⟩
    subst hcap
    rw [hoffe]
    have HOE := Aside0.mk hoffe
    clear hfl hoffe
    have v1 : (0 ≤ (off : Int)) = True := eq_true (by omega)
    have v2 : ((off : Int) ≤ (n : Int)) = True := eq_true (by have := HO.out; omega)
    go_wp2_with (first
      | (go_at_call 33; (with_reducible refine (canon_Turned.calls kt _ _ _ _ KT.out).mono ?_); rintro e w1 ⟨rfl, hd⟩; have T1 := Aside0.mk (T0.out.below hd.below); have B1 := Aside0.mk (below_step B0.out hd.below); have hc0 := T1.out.c0; have hc1 := T1.out.c1; have he2 := T1.out.e2 HB.out.2.2.2.2.2.1; rw [HF.out] at he2; clear hd))
    clear hc0 hc1 he2 T0 B0
    have hcut := cut_tw (b := b) (n := n) (cap := cap) (off := off) (by have := HO.out; have := HB.out; omega) (by have := HO.out; have := HB.out; have := T1.out.2.1; omega)
    have hc1 := T1.out.c1
    have hy0 := T1.out.e0 HXN.out
    rw [HE0.out] at hy0
    go_quiet (fail)
    clear hcut hc1 hy0
    have T5 := Aside0.mk (T1.out.below (pw_below_drewN (Below.refl _ _) nq))
    have B5 := Aside0.mk (below_step B1.out (pw_below_drewN (Below.refl w1.heap.size w1) nq))
    obtain ⟨w5, hw5⟩ : ∃ w5, w1.drewN nq = w5 := ⟨_, rfl⟩
    rw [hw5] at T5 B5
    rw [hw5]
    clear hw5 T1 B1
    have hc0 := T5.out.c0
    go_wp2
    have T6 := Aside0.mk (T5.out.congr (fun z _ => (ptf_start (off := off) (P := P) (N2 := N2) (t2 := t2) (i := i) (nn := nn) (f := f) z).symm))
    clear hc0 T5
    go_loopg [11] P (fun q v11 w' => ∃ X : Nat, v11 = .int .i64 (X : Int) ∧ Aside0 (X % N2 = t2 ∧ P ≤ X + q ∧ X < P + N2 + N2) ∧ Aside0 (TwS w' g b cap (n) (r : Int) (rs : Int) (ptf (off) P N2 t2 i nn X (f))) ∧ Aside0 (Below w0.heap.size w0 w'))
    case atStart => exact ⟨t2, rfl, ⟨Nat.mod_eq_of_lt HB.out.1, by omega, by have := HB.out; omega⟩, T6, B5⟩
    case round =>
      clear T6 B5
      obtain ⟨X, rfl, HY, T7, B7⟩ := hrel
      have hc0 := T7.out.c0
      have hc2 := T7.out.c2
      by_cases hlt : X < P
      · have t3 : decide ((X : Int) < (P : Int)) = true := decide_eq_true (by omega)
        have t4 : decide (X < P) = true := decide_eq_true hlt
        have p3 : (0 ≤ (X : Int)) = True := eq_true (by omega)
        have hXn : X < n - off := by have := HO.out; omega
        have u3 : ((X : Int) < ((n - off : Nat) : Int)) = True := eq_true (by omega)
        have u4 : (X < n - off) = True := eq_true hXn
        have HLT := Aside0.mk (show off + X < n by omega)
        have HLR := Aside0.mk hlt
        cases gk with
        | zero => have := HY.out; omega
        | succ q2 =>
          clear hlt hXn
          go_wp2_with (first
            | ((with_reducible refine gate_store (t := 68) (p := 107) rfl ?_); refine store_tw rfl 68 (.tmp 107) (.tmp 106) rfl T7.out (off + X) HLT.out (i, nn, false) ?_ rfl sizeE ?_; (case refine_1 => exact ptr_at rfl); intro w8 T8 E8; have d0 := T8.out.c0; have d2 := T8.out.c2))
          have B8 := Aside0.mk (below_grown B7.out E8.out HG2.out B7.out.size)
          go_roundg q2
          case measure => exact Nat.lt_succ_self _
          case rel =>
            refine ⟨X + N2, ?_, ⟨?_, by have := HY.out; have := HB.out; omega, by have := HLR.out; omega⟩, ⟨T8.out.congr (fun x hx => ptf_step HLR.out HY.out.1 HB.out.2.1 x)⟩, B8⟩
            · rw [w64 (by omega) (by have := HY.out; have := HB.out; omega)]; rfl
            · rw [Nat.add_mod_right]; exact HY.out.1
      · have t3 : decide ((X : Int) < (P : Int)) = false := decide_eq_false (by omega)
        have t4 : decide (X < P) = false := decide_eq_false hlt
        have HGE := Aside0.mk (show P ≤ X by omega)
        clear hlt
        go_wp2
        first | go_end0 | ((try simp only [Exit.inBlock, Exit.then]); refine bodyPost_ret (results_none rfl _ _ _) rfl ?_)
        refine ⟨rfl, B7.out, b, cap, HG2.out, .inl ⟨HF.out, T7.out.congr (fun z _ => ptf_end HGE.out z)⟩⟩
  · have HF := Aside0.mk (show (f x0).2.2 = false by simpa using hfl)
    have HO := Aside0.mk (show n + P ≤ n + P from Nat.le_refl _)
    have HAP := Aside0.mk (show 0 < P ∧ (n + P) * 24 ≤ 140737488355328 by have := HB.out; omega)
    have HGX := Aside0.mk HB.out.2.2.2.2.2.1
    clear hfl
    have v1 : (0 ≤ (n : Int)) = True := eq_true (by omega)
    go_wp2_with (first
      | (go_at_call 33; (with_reducible refine (canon_Turned.calls kt _ _ _ _ KT.out).mono ?_); rintro e w1 ⟨rfl, hd⟩; have T1 := Aside0.mk (T0.out.below hd.below); have B1 := Aside0.mk (below_step B0.out hd.below); have hc0 := T1.out.c0; have hc1 := T1.out.c1; have he2 := T1.out.e2 HB.out.2.2.2.2.2.1; rw [HF.out] at he2; clear hd))
    go_still_tail 14, (by kernel_rfl)
    change wpList _ _ _ _ _ w1.drew
    have T2 := Aside0.mk (show TwS w1.drew g b cap n (r : Int) (rs : Int) f from T1.out.below (below_drew (Below.refl _ _)))
    have B2 := Aside0.mk (below_drew B1.out)
    clear hc0 hc1 he2 T0 B0 T1 B1
    go_wp2_with (first
      | ((with_reducible refine gate_store (t := 68) (p := 47) rfl ?_); refine store_tw rfl 68 (.tmp 47) (.tmp 46) rfl T2.out x0 HGX.out (n, 0, true) ?_ rfl sizeE ?_; (case refine_1 => first | (go_simp; done) | (go_simp; rfl) | rfl); intro w3 T3 E3))
    have B3 := Aside0.mk (below_grown B2.out E3.out HG.out.2 B2.out.size)
    clear T2 B2 E3
    refine start_ (n := 16) (S := fun w' => w'.cell? ⟨g, 1, none⟩ = some (.slice (some ⟨b, 0, none⟩) n cap) ∧ w'.cell? ⟨g, 2, none⟩ = some (.int .i64 (rs : Int))) (ds := [15]) #[false, false, false, false, false, false, false, false, false, false, false, false, false, false, false, false] (by kernel_rfl) rfl rfl ⟨T3.out.c1, T3.out.c2⟩ (fun hHeld => ?_)
    refine pure_ (i := 0) (N := some 48) (v := ?_) (a' := ?_) #[true, false, false, false, false, false, false, false, false, false, false, false, false, false, false, false] rfl rfl (by kernel_rfl) (fun _ _ _ h => h) (Or.inl ⟨by rfl, ?_⟩) ?_ ?_
    rotate_left
    · intro w'
      go_simp
      with_reducible rfl
    rotate_left
    · simp only [Act.put, List.setIfInBounds_toArray, List.set_cons_zero, List.set_cons_succ, i64_w, i32_w]
      rfl
    refine pure_ (i := 1) (N := some 49) (v := ?_) (a' := ?_) #[true, true, false, false, false, false, false, false, false, false, false, false, false, false, false, false] rfl rfl (by kernel_rfl) (fun _ _ _ h => h) (Or.inl ⟨by rfl, ?_⟩) ?_ ?_
    rotate_left
    · intro w'
      go_simp
      with_reducible rfl
    rotate_left
    · simp only [Act.put, List.setIfInBounds_toArray, List.set_cons_zero, List.set_cons_succ, i64_w, i32_w]
      rfl
    refine pure_ (i := 2) (N := some 50) (v := ?_) (a' := ?_) #[true, true, true, false, false, false, false, false, false, false, false, false, false, false, false, false] rfl rfl (by kernel_rfl) (fun _ _ _ h => h) (Or.inl ⟨by rfl, ?_⟩) ?_ ?_
    rotate_left
    · intro w'
      go_simp
      with_reducible rfl
    rotate_left
    · simp only [Act.put, List.setIfInBounds_toArray, List.set_cons_zero, List.set_cons_succ, i64_w, i32_w]
      rfl
    refine pure_ (i := 3) (N := some 51) (v := ?_) (a' := ?_) #[true, true, true, true, false, false, false, false, false, false, false, false, false, false, false, false] rfl rfl (by kernel_rfl) (fun _ _ _ h => h) (Or.inl ⟨by rfl, ?_⟩) ?_ ?_
    rotate_left
    · intro w'
      go_simp
      with_reducible rfl
    rotate_left
    · simp only [Act.put, List.setIfInBounds_toArray, List.set_cons_zero, List.set_cons_succ, i64_w, i32_w]
      rfl
    refine pure_ (i := 4) (N := some 52) (v := ?_) (a' := ?_) #[true, true, true, true, true, false, false, false, false, false, false, false, false, false, false, false] rfl rfl (by kernel_rfl) (fun _ _ _ h => h) (Or.inl ⟨by rfl, ?_⟩) ?_ ?_
    rotate_left
    · intro w'
      go_simp
      with_reducible rfl
    rotate_left
    · simp only [Act.put, List.setIfInBounds_toArray, List.set_cons_zero, List.set_cons_succ, i64_w, i32_w]
      rfl
    refine pure_ (i := 6) (N := some 54) (v := ?_) (a' := ?_) #[true, true, true, true, true, false, true, false, false, false, false, false, false, false, false, false] rfl rfl (by kernel_rfl) (fun _ _ _ h => h) (Or.inl ⟨by rfl, ?_⟩) ?_ ?_
    rotate_left
    · intro w'
      go_simp
      with_reducible rfl
    rotate_left
    · simp only [Act.put, List.setIfInBounds_toArray, List.set_cons_zero, List.set_cons_succ, i64_w, i32_w]
      rfl
    refine pure_ (i := 7) (N := some 55) (v := ?_) (a' := ?_) #[true, true, true, true, true, false, true, true, false, false, false, false, false, false, false, false] rfl rfl (by kernel_rfl) (fun _ _ _ h => h) (Or.inl ⟨by rfl, ?_⟩) ?_ ?_
    rotate_left
    · intro w'
      go_simp
      with_reducible rfl
    rotate_left
    · simp only [Act.put, List.setIfInBounds_toArray, List.set_cons_zero, List.set_cons_succ, i64_w, i32_w]
      rfl
    refine pure_ (i := 8) (N := some 56) (v := ?_) (a' := ?_) #[true, true, true, true, true, false, true, true, true, false, false, false, false, false, false, false] rfl rfl (by kernel_rfl) (fun _ _ _ h => h) (Or.inl ⟨by rfl, ?_⟩) ?_ ?_
    rotate_left
    · intro w'
      go_simp
      with_reducible rfl
    rotate_left
    · simp only [Act.put, List.setIfInBounds_toArray, List.set_cons_zero, List.set_cons_succ, i64_w, i32_w]
      rfl
    refine take_ (i := 5) (N := some 53) (v := ?_) (a' := ?_) #[true, true, true, true, true, true, true, true, true, false, false, false, false, false, false, false] rfl rfl (by kernel_rfl) (fun _ _ _ h => h) (Or.inl ⟨by rfl, ?_⟩) hHeld ?_ ?_
    rotate_left
    · rintro w' ⟨s0, s1⟩
      go_simp
      with_reducible rfl
    rotate_left
    · simp only [Act.put, List.setIfInBounds_toArray, List.set_cons_zero, List.set_cons_succ, i64_w, i32_w]
      rfl
    refine take_ (i := 9) (N := some 57) (v := ?_) (a' := ?_) #[true, true, true, true, true, true, true, true, true, true, false, false, false, false, false, false] rfl rfl (by kernel_rfl) (fun _ _ _ h => h) (Or.inl ⟨by rfl, ?_⟩) hHeld ?_ ?_
    rotate_left
    · rintro w' ⟨s0, s1⟩
      go_simp
      with_reducible rfl
    rotate_left
    · simp only [Act.put, List.setIfInBounds_toArray, List.set_cons_zero, List.set_cons_succ, i64_w, i32_w]
      rfl
    refine pure_ (i := 10) (N := some 58) (v := ?_) (a' := ?_) #[true, true, true, true, true, true, true, true, true, true, true, false, false, false, false, false] rfl rfl (by kernel_rfl) (fun _ _ _ h => h) (Or.inl ⟨by rfl, ?_⟩) ?_ ?_
    rotate_left
    · intro w'
      go_simp
      with_reducible rfl
    rotate_left
    · simp only [Act.put, List.setIfInBounds_toArray, List.set_cons_zero, List.set_cons_succ, i64_w, i32_w]
      rfl
    refine one_ (i := 11) (N := some 59) #[true, true, true, true, true, true, true, true, true, true, true, true, false, false, false, false] rfl rfl (by kernel_rfl) (by decide) (fun K hK => ?_)
    refine app_step (W := w3.drew) (by rfl) (.tmp 53) (.tmp 58) rfl (show RowE w3.drew b cap n _ from T3.out.2) rfl rfl HAP.out.1 HAP.out.2 ?_
    intro b4 cap4 w4 hr4 hg4 hb4
    have R4 := Aside0.mk hr4
    have G4 := Aside0.mk hg4
    have H4 := Aside0.mk (blk_grown (show w3.drew.heap[g]? = _ from T3.out.1) hg4 (fun e => T3.out.ne (Option.some.inj e)))
    have D4 := Aside0.mk hb4
    clear hr4 hg4 hb4
    refine hK.out _ _ ⟨((blk_cell H4.out 1).trans rfl), ((blk_cell H4.out 2).trans rfl)⟩ (fun hHeld => ?_)
    clear hK K
    refine norm_ (a' := ?_) ?_ ?_
    rotate_left
    · show Act.put _ (some 59) _ = _
      simp only [Act.put, List.setIfInBounds_toArray, List.set_cons_zero, List.set_cons_succ, i64_w, i32_w]
      rfl
    refine pure_ (i := 12) (N := some 60) (v := ?_) (a' := ?_) #[true, true, true, true, true, true, true, true, true, true, true, true, true, false, false, false] rfl rfl (by kernel_rfl) (fun _ _ _ h => h) (Or.inl ⟨by rfl, ?_⟩) ?_ ?_
    rotate_left
    · intro w'
      go_simp
      with_reducible rfl
    rotate_left
    · simp only [Act.put, List.setIfInBounds_toArray, List.set_cons_zero, List.set_cons_succ, i64_w, i32_w]
      rfl
    refine pure_ (i := 13) (N := some 61) (v := ?_) (a' := ?_) #[true, true, true, true, true, true, true, true, true, true, true, true, true, true, false, false] rfl rfl (by kernel_rfl) (fun _ _ _ h => h) (Or.inl ⟨by rfl, ?_⟩) ?_ ?_
    rotate_left
    · intro w'
      go_simp
      with_reducible rfl
    rotate_left
    · simp only [Act.put, List.setIfInBounds_toArray, List.set_cons_zero, List.set_cons_succ, i64_w, i32_w]
      rfl
    refine pure_ (i := 14) (N := some 62) (v := ?_) (a' := ?_) #[true, true, true, true, true, true, true, true, true, true, true, true, true, true, true, false] rfl rfl (by kernel_rfl) (fun _ _ _ h => h) (Or.inl ⟨by rfl, ?_⟩) ?_ ?_
    rotate_left
    · intro w'
      go_simp
      with_reducible rfl
    rotate_left
    · simp only [Act.put, List.setIfInBounds_toArray, List.set_cons_zero, List.set_cons_succ, i64_w, i32_w]
      rfl
    refine last_ (i := 15) (N := none) #[true, true, true, true, true, true, true, true, true, true, true, true, true, true, true, true] rfl rfl (by kernel_rfl) (by decide) (fun K hK => ?_)
    have hc4 := (blk_cell H4.out 1).trans (rfl : _ = some (Value.slice (some ⟨b, 0, none⟩) n cap))
    have hf4 := blk_frozen H4.out 1
    refine skip_ (w1 := ?_) (by rfl) rfl ?_ ?_
    rotate_left
    · go_simp
      rfl
    refine hK.out _ _ ?_
    clear hK K
    refine done_ (by kernel_rfl) ?_
    have T4 := Aside0.mk (show TwS (w4.setCell ⟨g, 1, none⟩ (.slice (some ⟨b4, 0, none⟩) (n + P) cap4)) g b4 cap4 (n + P) (r : Int) (rs : Int) (lgf n P x0 f) from
      ⟨blk_put H4.out 1 _ (by simp), (R4.out.same (Below.heap_setCell w4 ⟨g, 1, none⟩ _ b4 (by obtain ⟨C4, hC4⟩ := R4.out.ty; exact blk_ne hC4 H4.out (by decide)))).congr (fun z _ => rfl)⟩)
    have B4 := Aside0.mk (below_set (below_grown (below_drew B3.out) G4.out HG.out.2 B3.out.size) HG.out.1 (j := 1) (v := .slice (some ⟨b4, 0, none⟩) (n + P) cap4))
    have HG4 := Aside0.mk (show w0.heap.size ≤ b4 by
      rcases D4.out with e | e
      · rw [e]; exact HG.out.2
      · rw [e]; exact B3.out.size)
    have HG2 := HG4
    clear hHeld hc4 hf4 R4 G4 H4 D4 T3 B3
    obtain ⟨w4b, hw4b⟩ : ∃ w4b, w4.setCell ⟨g, 1, none⟩ (.slice (some ⟨b4, 0, none⟩) (n + P) cap4) = w4b := ⟨_, rfl⟩
    rw [hw4b] at T4 B4
    rw [hw4b]
    clear hw4b
    obtain ⟨n4, hn4⟩ : ∃ n4, n + P = n4 := ⟨_, rfl⟩
    rw [hn4] at T4
    rw [hn4]
    clear HO
    have HO := Aside0.mk (show n + P ≤ n4 by omega)
    have HN4 := Aside0.mk hn4
    have HXN := Aside0.mk (show x0 < n4 by have := HGX.out; omega)
    have HE0 := Aside0.mk (show (((lgf n P x0 f x0).1 : Nat) : Int) = (n : Int) by unfold lgf; rw [if_pos HGX.out, if_pos rfl])
    have q2 : ((x0 : Int) < (n4 : Int)) = True := eq_true (by have := HGX.out; omega)
    have q3 : (x0 < n4) = True := eq_true (by have := HGX.out; omega)
    have v2 : ((n : Int) ≤ (n4 : Int)) = True := eq_true (by omega)
    have v3 : (n ≤ n4) = True := eq_true (by omega)
    clear hn4
    go_wp2
    have hcut := cut_tw (b := b4) (n := n4) (cap := cap4) (off := n) (by have := HO.out; have := HB.out; omega) (by have := HO.out; have := HB.out; have := T4.out.2.1; omega)
    have hc1 := T4.out.c1
    have hy0 := T4.out.e0 HXN.out
    rw [HE0.out] at hy0
    go_quiet (fail)
    clear hcut hc1 hy0
    have T5 := Aside0.mk (T4.out.below (pw_below_drewN (Below.refl _ _) nq))
    have B5 := Aside0.mk (below_step B4.out (pw_below_drewN (Below.refl w4b.heap.size w4b) nq))
    obtain ⟨w5, hw5⟩ : ∃ w5, w4b.drewN nq = w5 := ⟨_, rfl⟩
    rw [hw5] at T5 B5
    rw [hw5]
    clear hw5 T4 B4
    have hc0 := T5.out.c0
    go_wp2
    have T6 := Aside0.mk (T5.out.congr (fun z _ => (ptf_start (off := n) (P := P) (N2 := N2) (t2 := t2) (i := i) (nn := nn) (f := (lgf n P x0 f)) z).symm))
    clear hc0 T5
    go_loopg [11] P (fun q v11 w' => ∃ X : Nat, v11 = .int .i64 (X : Int) ∧ Aside0 (X % N2 = t2 ∧ P ≤ X + q ∧ X < P + N2 + N2) ∧ Aside0 (TwS w' g b4 cap4 (n4) (r : Int) (rs : Int) (ptf (n) P N2 t2 i nn X ((lgf n P x0 f)))) ∧ Aside0 (Below w0.heap.size w0 w'))
    case atStart => exact ⟨t2, rfl, ⟨Nat.mod_eq_of_lt HB.out.1, by omega, by have := HB.out; omega⟩, T6, B5⟩
    case round =>
      clear T6 B5
      obtain ⟨X, rfl, HY, T7, B7⟩ := hrel
      have hc0 := T7.out.c0
      have hc2 := T7.out.c2
      by_cases hlt : X < P
      · have t3 : decide ((X : Int) < (P : Int)) = true := decide_eq_true (by omega)
        have t4 : decide (X < P) = true := decide_eq_true hlt
        have p3 : (0 ≤ (X : Int)) = True := eq_true (by omega)
        have hXn : X < n4 - n := by have := HO.out; omega
        have u3 : ((X : Int) < ((n4 - n : Nat) : Int)) = True := eq_true (by omega)
        have u4 : (X < n4 - n) = True := eq_true hXn
        have HLT := Aside0.mk (show n + X < n4 by omega)
        have HLR := Aside0.mk hlt
        cases gk with
        | zero => have := HY.out; omega
        | succ q2 =>
          clear hlt hXn
          go_wp2_with (first
            | ((with_reducible refine gate_store (t := 68) (p := 107) rfl ?_); refine store_tw rfl 68 (.tmp 107) (.tmp 106) rfl T7.out (n + X) HLT.out (i, nn, false) ?_ rfl sizeE ?_; (case refine_1 => exact ptr_at rfl); intro w8 T8 E8; have d0 := T8.out.c0; have d2 := T8.out.c2))
          have B8 := Aside0.mk (below_grown B7.out E8.out HG2.out B7.out.size)
          go_roundg q2
          case measure => exact Nat.lt_succ_self _
          case rel =>
            refine ⟨X + N2, ?_, ⟨?_, by have := HY.out; have := HB.out; omega, by have := HLR.out; omega⟩, ⟨T8.out.congr (fun x hx => ptf_step HLR.out HY.out.1 HB.out.2.1 x)⟩, B8⟩
            · rw [w64 (by omega) (by have := HY.out; have := HB.out; omega)]; rfl
            · rw [Nat.add_mod_right]; exact HY.out.1
      · have t3 : decide ((X : Int) < (P : Int)) = false := decide_eq_false (by omega)
        have t4 : decide (X < P) = false := decide_eq_false hlt
        have HGE := Aside0.mk (show P ≤ X by omega)
        clear hlt
        go_wp2
        first | go_end0 | ((try simp only [Exit.inBlock, Exit.then]); refine bodyPost_ret (results_none rfl _ _ _) rfl ?_)
        refine ⟨rfl, B7.out, b4, cap4, HG2.out, .inr ⟨HF.out, by have h := T7.out.congr (fun z _ => ptf_end HGE.out z); rw [← HN4.out] at h; exact h⟩⟩
end Go.Proofs.Ytoikiefegkgedaa.Hd
/- Codes by two tables, plainly: how the tables grow. -/
namespace Go.Proofs.Ytoikiefegkgedaa.Pure
open Go.RowKit Go.Proofs.YtoikiefegkgedaaW.PrintWords Go.Proofs.YtoikiefegkgedaaW.PrintMore Go.Proofs.Ytoikiefegkgedaa.P Go.Proofs.Ytoikiefegkgedaa.Com Go.Proofs.Ytoikiefegkgedaa.Cn Go.Proofs.Ytoikiefegkgedaa.Hd
attribute [local irreducible] ord pos code mb
section
variable {l : List Int} {root R P i : Nat}
theorem al_start (x : Nat) (hx : x < R) : al l root R P 0 x = (0, 0, false) := by
  unfold al
  rw [if_pos hx, show sv l root 0 x = (0, 0) from rfl, if_pos rfl, show Hl l root 0 = [] from rfl, if_neg (by simp)]
theorem Hl_short (h : ¬ root < ln l i) : Hl l root (i + 1) = Hl l root i := by rw [Hl, if_neg (fun e => h e.1)]
theorem lv_short (h : ¬ root < ln l i) (x : Nat) : lv l root (i + 1) x = lv l root i x := by rw [lv, if_neg (fun e => h e.1)]
theorem sv_long (h : root < ln l i) (x : Nat) : sv l root (i + 1) x = sv l root i x := by rw [sv, if_neg (fun e => by omega)]
theorem al_skip (h0 : l.getD i 0 ≤ 0) (x : Nat) : al l root R P i x = al l root R P (i + 1) x := by
  have hl : ¬ root < ln l i := by unfold ln; omega
  have hs : sv l root (i + 1) x = sv l root i x := by rw [sv, if_neg (fun e => by have := e.2.1; omega)]
  unfold al
  simp only [hs, Hl_short hl, lv_short hl]
theorem al_short (h0 : 0 < l.getD i 0) (hs : ln l i ≤ root) (x : Nat) : (if x < R ∧ x % 2 ^ ln l i = tc l i then (i, ln l i, false) else al l root R P i x) = al l root R P (i + 1) x := by
  have hp := Pure.ln_pos h0
  have hn : ¬ root < ln l i := by omega
  by_cases hx : x < R
  · by_cases hh : hits l i x
    · rw [if_pos ⟨hx, hh.2⟩]
      unfold al
      rw [if_pos hx, show sv l root (i + 1) x = (i, ln l i) by rw [sv, if_pos ⟨hs, hh⟩], if_neg (by show ¬ ln l i = 0; omega)]
    · rw [if_neg (fun e => hh ⟨h0, e.2⟩)]
      have hsv : sv l root (i + 1) x = sv l root i x := by rw [sv, if_neg (fun e => hh e.2)]
      unfold al
      simp only [hsv, Hl_short hn, lv_short hn]
  · rw [if_neg (fun e => hx e.1)]
    unfold al
    rw [if_neg hx, if_neg hx]
    simp only [Hl_short hn, lv_short hn]
theorem hits_part (hR : R = 2 ^ root) (h0 : 0 < l.getD i 0) (hl : root < ln l i) (y : Nat) : hits l i (tc l i % R + R * y) ↔ y % 2 ^ (ln l i - root) = tc l i / R := by
  have hRp : 0 < R := by rw [hR]; exact Nat.two_pow_pos _
  have hm := Nat.mod_lt (tc l i) hRp
  have e1 : 2 ^ ln l i = R * 2 ^ (ln l i - root) := by rw [hR, ← Nat.pow_add]; congr 1; omega
  have e2 : (tc l i % R + R * y) % (R * 2 ^ (ln l i - root)) = tc l i % R + R * (y % 2 ^ (ln l i - root)) := by
    rw [Nat.mod_mul, Nat.add_mul_mod_self_left, Nat.mod_mod, Nat.add_mul_div_left _ _ hRp, Nat.div_eq_of_lt hm, Nat.zero_add]
  have e3 := Nat.mod_add_div (tc l i) R
  unfold hits
  rw [e1, e2]
  show _ ∧ _ = tc l i ↔ _
  constructor
  · rintro ⟨_, h⟩
    have : R * (y % 2 ^ (ln l i - root)) = R * (tc l i / R) := by omega
    exact Nat.eq_of_mul_eq_mul_left hRp this
  · intro h
    exact ⟨h0, by rw [h]; exact e3⟩
theorem sv_head (h : chk l 16 = 0) (hi : i < l.length) (hR : R = 2 ^ root) (hl : root < ln l i) : (sv l root i (tc l i % R)).2 = 0 := by
  rcases sv_or (l := l) (root := root) i (tc l i % R) with ⟨e, _⟩ | ⟨j, hj, hjr, hh, _⟩
  · rw [e]
  · exact (noconf h (show j < l.length by omega) hi hjr hl hh (by rw [hR])).elim
theorem al_head (h : chk l 16 = 0) (hi : i < l.length) (hR : R = 2 ^ root) (hl : root < ln l i) : al l root R P i (tc l i % R) = if tc l i % R ∈ Hl l root i then (R + (Hl l root i).idxOf (tc l i % R) * P, 0, true) else (0, 0, false) := by
  have hm := Nat.mod_lt (tc l i) (show 0 < R by rw [hR]; exact Nat.two_pow_pos _)
  unfold al
  rw [if_pos hm, sv_head h hi hR hl, if_pos rfl]
theorem part_at {k y : Nat} (hy : y < P) : (R + k * P + y - R) / P = k ∧ (R + k * P + y - R) % P = y := by
  have e : R + k * P + y - R = P * k + y := by rw [Nat.mul_comm k P, Nat.add_assoc, Nat.add_sub_cancel_left]
  rw [e]
  exact ⟨by rw [Nat.mul_add_div (by omega), Nat.div_eq_of_lt hy, Nat.add_zero], by rw [Nat.mul_add_mod, Nat.mod_eq_of_lt hy]⟩
theorem part_of {z : Nat} (hz : R ≤ z) (hP : 0 < P) : z = R + (z - R) / P * P + (z - R) % P ∧ (z - R) % P < P := by
  have := Nat.div_add_mod (z - R) P
  rw [Nat.mul_comm] at this
  exact ⟨by omega, Nat.mod_lt _ hP⟩
theorem al_part {k y : Nat} (hy : y < P) : al l root R P i (R + k * P + y) = ((lv l root i ((Hl l root i).getD k 0 + R * y)).1, (lv l root i ((Hl l root i).getD k 0 + R * y)).2, false) := by
  unfold al
  rw [if_neg (by rw [Nat.add_assoc]; exact Nat.not_lt.2 (Nat.le_add_right _ _)), (part_at hy).1, (part_at hy).2]
theorem al_part' {k y : Nat} (hy : y < P) (hH : Hl l root (i + 1) = Hl l root i) : al l root R P (i + 1) (R + k * P + y) = ((lv l root (i + 1) ((Hl l root i).getD k 0 + R * y)).1, (lv l root (i + 1) ((Hl l root i).getD k 0 + R * y)).2, false) := by rw [al_part hy, hH]
theorem mul_lt_of {k n P y : Nat} (hy : y < P) (h : k * P + y < n * P) : k < n := by
  apply Nat.lt_of_not_le
  intro hle
  have := Nat.mul_le_mul_right P hle
  omega
theorem al_low {x : Nat} (hx : x < R) (hl : root < ln l i) : al l root R P (i + 1) x = if (sv l root i x).2 = 0 then (if x ∈ Hl l root (i + 1) then (R + (Hl l root (i + 1)).idxOf x * P, 0, true) else (0, 0, false)) else ((sv l root i x).1, (sv l root i x).2, false) := by
  unfold al
  rw [if_pos hx, sv_long hl]
theorem Hl_mod {k : Nat} (hR : R = 2 ^ root) (hk : k < (Hl l root i).length) (y : Nat) : ((Hl l root i).getD k 0 + R * y) % R = (Hl l root i).getD k 0 := by
  rw [Nat.add_mul_mod_self_left, Nat.mod_eq_of_lt]
  rw [List.getD_eq_getElem?_getD, List.getElem?_eq_getElem hk, hR]
  exact Hl_lt _ _ (List.getElem_mem hk)
/-- A longer code whose beginning is known. -/
theorem al_long_in (h : chk l 16 = 0) (hi : i < l.length) (h0 : 0 < l.getD i 0) (hR : R = 2 ^ root) (hP : 0 < P) (hl : root < ln l i) (hin : tc l i % R ∈ Hl l root i) (z : Nat) (hz : z < R + (Hl l root i).length * P) :
    pte (al l root R P i (tc l i % R)).1 P (2 ^ (ln l i - root)) (tc l i / R) i (ln l i) (al l root R P i) z = al l root R P (i + 1) z := by
  have hH : Hl l root (i + 1) = Hl l root i := by rw [Hl, if_neg (fun e => e.2 (by rw [← hR]; exact hin))]
  rw [al_head h hi hR hl, if_pos hin]
  have hk := List.idxOf_lt_length_of_mem hin
  have hge : (Hl l root i)[(Hl l root i).idxOf (tc l i % R)] = tc l i % R := List.getElem_idxOf hk
  obtain ⟨k0, hk0⟩ : ∃ k, (Hl l root i).idxOf (tc l i % R) = k := ⟨_, rfl⟩
  simp only [hk0] at hk hge ⊢
  by_cases hzR : z < R
  · unfold pte
    rw [if_neg (by rintro ⟨h1, _⟩; omega), al_low hzR hl, hH]
    unfold al
    rw [if_pos hzR]
  · obtain ⟨e1, e2⟩ := part_of (R := R) (P := P) (z := z) (by omega) hP
    obtain ⟨k, hkk⟩ : ∃ k, (z - R) / P = k := ⟨_, rfl⟩
    obtain ⟨y, hyy⟩ : ∃ y, (z - R) % P = y := ⟨_, rfl⟩
    rw [hkk, hyy] at e1
    rw [hyy] at e2
    have hkl : k < (Hl l root i).length := mul_lt_of e2 (by omega)
    rw [e1, al_part' e2 hH]
    by_cases hkk0 : k = k0
    · subst hkk0
      have hg : (Hl l root i).getD k 0 = tc l i % R := by rw [List.getD_eq_getElem?_getD, List.getElem?_eq_getElem hkl, hge]; rfl
      rw [hg]
      unfold pte
      rw [Nat.add_sub_cancel_left, lv]
      by_cases hh : hits l i (tc l i % R + R * y)
      · rw [if_pos ⟨by omega, by omega, (hits_part hR h0 hl y).1 hh⟩, if_pos ⟨hl, hh⟩]
      · rw [if_neg (fun e => hh ((hits_part hR h0 hl y).2 e.2.2)), if_neg (fun e => hh e.2), al_part e2, hg]
    · have hno : ¬ hits l i ((Hl l root i).getD k 0 + R * y) := by
        intro hh
        have e3 := hits_head (root := root) (by omega) hh
        rw [← hR, Hl_mod hR hkl] at e3
        rw [List.getD_eq_getElem?_getD, List.getElem?_eq_getElem hkl] at e3
        have e4 : (Hl l root i)[k] = (Hl l root i)[k0] := by rw [hge]; exact e3.symm
        rcases Nat.lt_trichotomy k k0 with hlt | he | hgt
        · exact List.pairwise_iff_getElem.1 (Hl_nodup (l := l) (root := root) i) k k0 hkl hk hlt e4
        · exact hkk0 he
        · exact List.pairwise_iff_getElem.1 (Hl_nodup (l := l) (root := root) i) k0 k hk hkl hgt e4.symm
      rw [lv, if_neg (fun e => hno e.2)]
      unfold pte
      rw [if_neg, al_part e2]
      rintro ⟨h1, h2, _⟩
      apply hkk0
      rcases Nat.lt_trichotomy k k0 with hlt | he | hgt
      · have := Nat.mul_le_mul_right P (show k + 1 ≤ k0 from hlt)
        rw [Nat.add_mul, Nat.one_mul] at this
        omega
      · exact he
      · have := Nat.mul_le_mul_right P (show k0 + 1 ≤ k from hgt)
        rw [Nat.add_mul, Nat.one_mul] at this
        omega
/-- A longer code whose beginning is new. -/
theorem al_long_out (h : chk l 16 = 0) (hi : i < l.length) (h0 : 0 < l.getD i 0) (hR : R = 2 ^ root) (hP : 0 < P) (hl : root < ln l i) (hin : tc l i % R ∉ Hl l root i) (n : Nat) (hn : n = R + (Hl l root i).length * P) (z : Nat) (hz : z < n + P) :
    pte n P (2 ^ (ln l i - root)) (tc l i / R) i (ln l i) (lgf n P (tc l i % R) (al l root R P i)) z = al l root R P (i + 1) z := by
  have hH : Hl l root (i + 1) = Hl l root i ++ [tc l i % R] := by rw [Hl, if_pos ⟨hl, by rw [← hR]; exact hin⟩, hR]
  have hm := Nat.mod_lt (tc l i) (show 0 < R by rw [hR]; exact Nat.two_pow_pos _)
  by_cases hzR : z < R
  · unfold pte lgf
    rw [if_neg (by rintro ⟨h1, _⟩; omega), if_pos (by omega), al_low hzR hl, hH]
    by_cases e : z = tc l i % R
    · rw [if_pos e, e, sv_head h hi hR hl, if_pos rfl, if_pos (by simp), List.idxOf_append, if_neg hin, List.idxOf_cons_self, hn, Nat.zero_add]
    · rw [if_neg e]
      unfold al
      rw [if_pos hzR]
      have hmem : z ∈ Hl l root i ++ [tc l i % R] ↔ z ∈ Hl l root i := by simp [e]
      by_cases hz2 : z ∈ Hl l root i
      · rw [if_pos hz2, if_pos (hmem.2 hz2), List.idxOf_append, if_pos hz2]
      · rw [if_neg hz2, if_neg (fun h => hz2 (hmem.1 h))]
  · obtain ⟨e1, e2⟩ := part_of (R := R) (P := P) (z := z) (by omega) hP
    obtain ⟨k, hkk⟩ : ∃ k, (z - R) / P = k := ⟨_, rfl⟩
    obtain ⟨y, hyy⟩ : ∃ y, (z - R) % P = y := ⟨_, rfl⟩
    rw [hkk, hyy] at e1
    rw [hyy] at e2
    by_cases hzn : z < n
    · have hkl : k < (Hl l root i).length := mul_lt_of e2 (by omega)
      have hg : (Hl l root i ++ [tc l i % R]).getD k 0 = (Hl l root i).getD k 0 := by rw [List.getD_eq_getElem?_getD, List.getElem?_append_left hkl, List.getD_eq_getElem?_getD]
      have hno : ¬ hits l i ((Hl l root i).getD k 0 + R * y) := by
        intro hh
        have e3 := hits_head (root := root) (by omega) hh
        rw [← hR, Hl_mod hR hkl] at e3
        rw [List.getD_eq_getElem?_getD, List.getElem?_eq_getElem hkl] at e3
        exact hin (e3 ▸ List.getElem_mem hkl)
      unfold pte lgf
      rw [if_neg (by rintro ⟨h1, _⟩; omega), if_pos hzn, if_neg (by omega), e1, al_part e2, al_part e2, hH, hg, lv, if_neg (fun e => hno e.2)]
    · have hkl : k = (Hl l root i).length := by
        have h1 : k < (Hl l root i).length + 1 := mul_lt_of e2 (by rw [Nat.add_mul, Nat.one_mul]; omega)
        have h2 : (Hl l root i).length < k + 1 := mul_lt_of (y := 0) hP (by rw [Nat.add_mul, Nat.one_mul]; omega)
        omega
      have hg : (Hl l root i ++ [tc l i % R]).getD k 0 = tc l i % R := by rw [hkl, List.getD_eq_getElem?_getD, List.getElem?_append_right (Nat.le_refl _), Nat.sub_self]; rfl
      have hzy : z - n = y := by rw [hkl] at e1; omega
      have hlv : lv l root i (tc l i % R + R * y) = (0, 0) := by
        rcases lv_or (l := l) (root := root) i (tc l i % R + R * y) with ⟨e, _⟩ | ⟨j, hj, hjr, hh, _⟩
        · exact e
        · have e3 := hits_head (root := root) (by omega) hh
          rw [← hR, Nat.add_mul_mod_self_left, Nat.mod_mod] at e3
          exact absurd ((mem_Hl _ _).2 ⟨j, hj, hjr, by rw [← hR]; exact e3⟩) hin
      have e4 : al l root R P (i + 1) z = ((lv l root (i + 1) (tc l i % R + R * y)).1, (lv l root (i + 1) (tc l i % R + R * y)).2, false) := by rw [e1, al_part e2, hH, hg]
      rw [e4, lv]
      unfold pte lgf
      rw [hzy, if_neg hzn]
      by_cases hh : hits l i (tc l i % R + R * y)
      · rw [if_pos ⟨by omega, by omega, (hits_part hR h0 hl y).1 hh⟩, if_pos ⟨hl, hh⟩]
      · rw [if_neg (fun e => hh ((hits_part hR h0 hl y).2 e.2.2)), if_neg (fun e => hh e.2), hlv]
theorem Hl_len (m : Nat) : (Hl l root m).length ≤ m := by
  induction m with
  | zero => simp [Hl]
  | succ m ih =>
    rw [Hl]
    split
    · rw [List.length_append, List.length_singleton]; omega
    · omega
end
end Go.Proofs.Ytoikiefegkgedaa.Pure
/- twolev.New, walked by hand. -/
namespace Go.Proofs.Ytoikiefegkgedaa.Hd
open Go Go.RowKit Go.Deep Go.Proofs.YtoikiefegkgedaaW.PrintWords Go.Proofs.YtoikiefegkgedaaW.PrintLast Go.Proofs.YtoikiefegkgedaaW.PrintMore Go.Proofs.Ytoikiefegkgedaa.Hw Go.Proofs.Ytoikiefegkgedaa.Com Go.Proofs.Ytoikiefegkgedaa.Cn Go.Proofs.Ytoikiefegkgedaa.P Go.Proofs.Ytoikiefegkgedaa.Pa Go.Proofs.Ytoikiefegkgedaa.Pure
attribute [local go_sem] max2_int min2_int max_two min_two max_three min_three max_four min_four
attribute [local irreducible] ord pos code tv mb sv lv al Hl
def errT (l : List Int) (root m : Int) : Int := if m < 1 ∨ 15 < m ∨ root < 1 ∨ m < root then 1 else chk l m
set_option maxHeartbeats 8000000 in
set_option maxRecDepth 100000 in
theorem twolev_New.calls (A0 : Option Addr) (c0 : Nat) (l0 : List Int) (root m : Int) (w : World) (hr0 : Kd.C (Kd.int .i64) w A0 l0.length l0) (hc0 : l0.length ≤ c0) (hl : l0.length ≤ 17592186044416) :
    Calls Try.prog 6 #[.slice A0 l0.length c0, .int .i64 root, .int .i64 m] w fun e w' => Below w.heap.size w w' ∧ ((errT l0 root m ≠ 0 ∧ e = .returned (.tuple #[.pointer none, .int .i64 (errT l0 root m)])) ∨
      (errT l0 root m = 0 ∧ ∃ g b cap, e = .returned (.tuple #[.pointer (some ⟨g, 0, none⟩), .int .i64 0]) ∧ TwS w' g b cap (2 ^ root.toNat + (Hl l0 root.toNat l0.length).length * 2 ^ (m - root).toNat) root (m - root) (al l0 root.toNat (2 ^ root.toNat) (2 ^ (m - root).toNat) l0.length))) := by
  have HR := Aside0.mk hr0
  have HC := Aside0.mk hc0
  by_cases h1 : m < 1
  · have E := Aside0.mk (show errT l0 root m = 1 from if_pos (.inl h1))
    have t1 : decide (m < 1) = true := decide_eq_true h1
    clear hr0 hc0
    go_enter Try.func6, Try.ntmps6
    go_wp2
    go_ret2
    exact ⟨Below.refl _ _, .inl ⟨by rw [E.out]; decide, by rw [E.out]; rfl⟩⟩
  have t1 : decide (m < 1) = false := decide_eq_false h1
  by_cases h2 : 15 < m
  · have E := Aside0.mk (show errT l0 root m = 1 from if_pos (.inr (.inl h2)))
    have t2 : decide (15 < m) = true := decide_eq_true h2
    clear hr0 hc0
    go_enter Try.func6, Try.ntmps6
    go_wp2
    go_ret2
    exact ⟨Below.refl _ _, .inl ⟨by rw [E.out]; decide, by rw [E.out]; rfl⟩⟩
  have t2 : decide (15 < m) = false := decide_eq_false h2
  by_cases h3 : root < 1
  · have E := Aside0.mk (show errT l0 root m = 1 from if_pos (.inr (.inr (.inl h3))))
    have t3 : decide (root < 1) = true := decide_eq_true h3
    clear hr0 hc0
    go_enter Try.func6, Try.ntmps6
    go_wp2
    go_ret2
    exact ⟨Below.refl _ _, .inl ⟨by rw [E.out]; decide, by rw [E.out]; rfl⟩⟩
  have t3 : decide (root < 1) = false := decide_eq_false h3
  by_cases h4 : m < root
  · have E := Aside0.mk (show errT l0 root m = 1 from if_pos (.inr (.inr (.inr h4))))
    have t4 : decide (m < root) = true := decide_eq_true h4
    clear hr0 hc0
    go_enter Try.func6, Try.ntmps6
    go_wp2
    go_ret2
    exact ⟨Below.refl _ _, .inl ⟨by rw [E.out]; decide, by rw [E.out]; rfl⟩⟩
  have t4 : decide (m < root) = false := decide_eq_false h4
  have e : errT l0 root m = chk l0 m := if_neg (by omega)
  have E := Aside0.mk e
  obtain ⟨k, hk⟩ := ev_get (chk_ev l0 hl m)
  have KC := Aside0.mk hk
  by_cases t0 : chk l0 m = 0
  case neg =>
    have TN := Aside0.mk t0
    obtain ⟨t, ht⟩ : ∃ t, chk l0 m = t := ⟨_, rfl⟩
    rw [ht] at KC TN E
    have t5 : (t != 0) = true := by simpa using TN.out
    clear hr0 hc0 e hk t0 ht
    go_enter Try.func6, Try.ntmps6
    go_wp2_with (first
      | (go_at_call 15; (with_reducible refine (kraft_Check.calls k _ _ l0 m t _ HR.out HC.out KC.out).mono ?_); rintro e w1 ⟨rfl, hB⟩; have B1 := Aside0.mk (Hd.drawn_b hB); clear hB))
    go_ret2
    exact ⟨B1.out, .inl ⟨by rw [E.out]; exact TN.out, by rw [E.out]; rfl⟩⟩
  rw [t0] at KC E
  obtain ⟨c1, c2, c16, clim⟩ := chk_lim t0
  obtain ⟨k2, hk2⟩ := ev_get (codes_ev l0 hl)
  rw [show codesP l0 = (codesL l0, 0) from if_pos c16] at hk2
  have KC2 := Aside0.mk hk2
  have HK := Aside0.mk (chk_len c16)
  obtain ⟨r, hr⟩ : ∃ r : Nat, root = r := ⟨root.toNat, by omega⟩
  obtain ⟨rs, hrs⟩ : ∃ rs : Nat, m - root = rs := ⟨(m - root).toNat, by omega⟩
  have hm : m.toNat = r + rs := by omega
  rw [hm] at clim
  have CK := Aside0.mk (And.intro c16 clim)
  rw [hrs]
  subst hr
  rw [Int.toNat_natCast, Int.toNat_natCast]
  obtain ⟨R, hR⟩ : ∃ R, 2 ^ r = R := ⟨_, rfl⟩
  obtain ⟨P, hP⟩ : ∃ P, 2 ^ rs = P := ⟨_, rfl⟩
  rw [hR, hP]
  have hsh := hsh_of (show (r : Int) = (r : Int) from rfl) (show r ≤ 16 by omega) hR
  have hw1 : wrap64 (m - (r : Int)) = (rs : Int) := by rw [hrs]; exact w64 (by omega) (by omega)
  have hRb : R ≤ 32768 := by rw [← hR]; exact Nat.pow_le_pow_right (n := 2) (by decide) (show r ≤ 15 by omega)
  have hPb : P ≤ 32768 := by rw [← hP]; exact Nat.pow_le_pow_right (n := 2) (by decide) (show rs ≤ 15 by omega)
  have HM := Aside0.mk (show 2 ^ r = R ∧ 2 ^ rs = P ∧ R ≤ 32768 ∧ P ≤ 32768 ∧ r + rs ≤ 15 ∧ 1 ≤ r ∧ 0 < P ∧ 0 < R from ⟨hR, hP, hRb, hPb, by omega, by omega, by rw [← hP]; exact Nat.two_pow_pos _, by rw [← hR]; exact Nat.two_pow_pos _⟩)
  clear hr0 hc0 e hk t0 hk2 c1 c2 c16 clim hm hrs hR hP hRb hPb h1 h2 h3 h4
  go_enter Try.func6, Try.ntmps6
  go_wp2_with (first
    | (go_at_call 15; (with_reducible refine (kraft_Check.calls k _ _ l0 m 0 _ HR.out HC.out KC.out).mono ?_); rintro e w1 ⟨rfl, hB⟩; have B1 := Aside0.mk (Hd.drawn_b hB); clear hB)
    | (go_at_call 16; (with_reducible refine (canon_Codes.calls k2 _ _ l0 _ _ _ (Kd.C_below HR.out B1.out) HC.out KC2.out).mono ?_); rintro e w2 ⟨vc, rfl, hR, hB⟩; obtain ⟨Ac, cc, e2, hcc, hCC⟩ := Kd.R_reads hR; subst e2; have CC := Aside0.mk hCC; have B2 := Aside0.mk (below_step B1.out hB); clear hB hR hcc hCC)
    | ((with_reducible refine gate_dst (N := 43) rfl ?_); refine make_rec rfl rfl R rfl rfl Try.underlying47 (.agg #[.int .i64 0, .int .i64 0, .bool false]) (en3 (0, 0, false)) infoE rfl (by decide) (by have := HM.out.2.2.1; omega) (by have := HM.out.2.2.1; omega) ?_; intro gb w3 G3 K3 B3)
    | ((with_reducible refine gate_dst (N := 50) rfl ?_); refine box_event ?hg (N := 50) ?hd (cs := #[.int .i64 (r : Int), .slice (some ⟨gb, 0, none⟩) R R, .int .i64 (rs : Int)]) (t := 53) ?hr ?_; (case hd => rfl); (case hg => rfl); (case hr => first | (go_simp; done) | (go_simp; rfl)); intro g hg w4 hx hB; have X4 := Aside0.mk hx; have B4 := Aside0.mk hB; have G4 := Aside0.mk hg; clear hx hB hg))
  have T4 := Aside0.mk (show TwS w4 g gb R (R + (Hl l0 r 0).length * P) (r : Int) (rs : Int) (al l0 r R P 0) from by
    rw [show Hl l0 r 0 = [] from by with_unfolding_all rfl, List.length_nil, Nat.zero_mul, Nat.add_zero]
    exact ⟨X4.out, Nat.le_refl _, by have := HM.out.2.2.1; simp [maxLen]; omega, _, K3.out.below B4.out, fun x hx => by rw [al_start x hx]⟩)
  have B5 := Aside0.mk (below_step B3.out B4.out)
  have G5 := Aside0.mk (show w2.heap.size ≤ g from by rw [G4.out]; exact B3.out.size)
  have G3' := Aside0.mk G3.out
  clear X4 K3 B3 B4 G4 KC KC2 hsh hw1
  go_loopg [53] l0.length (fun q v53 w' => ∃ (L : Int) (j b cap : Nat), v53 = .int .i64 L ∧ Aside0 (L = (j : Int) ∧ j + q = l0.length) ∧ Aside0 (TwS w' g b cap (R + (Hl l0 r j).length * P) (r : Int) (rs : Int) (al l0 r R P j)) ∧ Aside0 (w2.heap.size ≤ b) ∧ Aside0 (Below w2.heap.size w2 w'))
  case atStart => exact ⟨0, 0, gb, R, rfl, ⟨rfl, by omega⟩, T4, G3', B5⟩
  case round =>
    clear T4 B5 G3 G3'
    obtain ⟨L, j, b, cap, rfl, HA, T, GB, B⟩ := hrel
    cases gk with
    | zero =>
      have u1 : decide (L < (l0.length : Int)) = false := decide_eq_false (by have := HA.out; omega)
      have ej : j = l0.length := by have := HA.out; omega
      subst ej
      go_wp2
      go_ret2
      exact ⟨below_step B2.out B.out, .inr ⟨E.out, g, b, cap, rfl, T.out⟩⟩
    | succ q =>
      have u1 : decide (L < (l0.length : Int)) = true := decide_eq_true (by have := HA.out; omega)
      have p1 : (0 ≤ L) = True := eq_true (by have := HA.out; omega)
      have q1 : (L < (l0.length : Int)) = True := eq_true (by have := HA.out; omega)
      have hjl : j < l0.length := by have := HA.out; omega
      have h16 := ln16 HK.out.2 hjl
      obtain ⟨ad, e_, hc⟩ := Kd.at_int HR.out L (by have := HA.out; omega) (by have := HA.out; omega)
      subst e_
      have hc1 := ((below_step B2.out B.out).cell (World.block_lt_of_cell? w _ hc)).trans hc
      rw [HA.out.1, rd_nat, h16.2, Int.toNat_natCast] at hc1
      clear hc
      obtain ⟨n, hn⟩ : ∃ n, ln l0 j = n := ⟨_, rfl⟩
      rw [hn] at hc1 h16
      have eL : L = (j : Int) := HA.out.1
      subst eL
      have NXW := Aside0.mk (show wrap64 ((j : Int) + 1) = ((j + 1 : Nat) : Int) ∧ j + 1 + q = l0.length from by
        have := HA.out; have := HK.out.1
        exact ⟨by rw [w64 (by omega) (by omega)]; omega, by omega⟩)
      by_cases h0 : n = 0
      · have v2 : ((n : Int) == 0) = true := by rw [h0]; rfl
        have HZ := Aside0.mk (show l0.getD j 0 ≤ 0 by rw [h16.2]; omega)
        clear h16 hn hjl
        go_wp2
        go_roundg q
        case measure => exact Nat.lt_succ_self _
        case rel =>
          refine ⟨wrap64 ((j : Int) + 1), j + 1, b, cap, rfl, ⟨NXW.out.1, NXW.out.2⟩, ?_, GB, B⟩
          have hH : Hl l0 r (j + 1) = Hl l0 r j := Hl_short (by have := HZ.out; unfold ln; omega)
          rw [hH]
          exact ⟨T.out.congr (fun x _ => al_skip HZ.out x)⟩
      · have v2 : ((n : Int) == 0) = false := by rw [beq_eq_false_iff_ne]; omega
        have hcl : j < (codesL l0).length := by rw [codes_len]; exact hjl
        have q2 : (((j : Nat) : Int) < ((codesL l0).length : Int)) = True := eq_true (by omega)
        obtain ⟨ad2, e_, hc2⟩ := Kd.at_int CC.out ((j : Nat) : Int) (by omega) (by omega)
        subst e_
        have hc2' := (B.out.cell (World.block_lt_of_cell? w2 _ hc2)).trans hc2
        rw [codes_rd hjl, Int.toNat_natCast] at hc2'
        obtain ⟨C, hC⟩ : ∃ C, code l0 j = C := ⟨_, rfl⟩
        rw [hC] at hc2'
        have htc : tc l0 j = bv (mb C n) := by unfold tc; rw [hn, hC]
        have hnl : n ≤ r + rs := by rw [← hn]; exact CK.out.2 j hjl
        have HJ := Aside0.mk (show j < l0.length ∧ 0 < l0.getD j 0 ∧ ln l0 j = n ∧ tc l0 j = bv (mb C n) ∧ n ≤ r + rs ∧ n ≤ 16 from ⟨hjl, by rw [h16.2]; omega, hn, htc, hnl, h16.1⟩)
        have HLN := Aside0.mk (show R + (Hl l0 r j).length * P ≤ 100000000 from by
          have h1 := Hl_len (l := l0) (root := r) j
          have h2 := Nat.mul_le_mul h1 HM.out.2.2.2.1
          have := HM.out.2.2.1
          have := HK.out.1
          omega)
        clear hc2 h16 hn hjl hcl hC htc hnl h0
        by_cases hs : n ≤ r
        · have v3 : decide ((n : Int) ≤ (r : Int)) = true := decide_eq_true (by omega)
          have v4 : decide (n ≤ r) = true := decide_eq_true hs
          have HS := Aside0.mk hs
          clear hs
          go_wp2
          go_still_tail 10, (by kernel_rfl)
          change wpList _ _ _ _ _ wr.drew
          go_wp2_with (first
            | (go_at_call 17; (with_reducible refine (short_calls g b cap (R + (Hl l0 r j).length * P) j n C r R (2 ^ n) (bv (mb C n)) (rs : Int) (al l0 r R P j) wr.drew (T.out.below (below_drew (Below.refl _ _))) (by have := HM.out; omega) HM.out.1 (Nat.le_add_right _ _) HJ.out.2.2.2.2.2 rfl rfl).mono ?_); rintro e w5 ⟨rfl, hT, w6, hB6, hG⟩; have T5 := Aside0.mk hT; have B6 := Aside0.mk (below_step (below_drew B.out) hB6); have B5 := Aside0.mk (below_grown B6.out hG GB.out B6.out.size); clear hT hB6 hG))
          go_roundg q
          case measure => exact Nat.lt_succ_self _
          case rel =>
            refine ⟨wrap64 ((j : Int) + 1), j + 1, b, cap, rfl, ⟨NXW.out.1, NXW.out.2⟩, ?_, GB, B5⟩
            have hH : Hl l0 r (j + 1) = Hl l0 r j := Hl_short (by rw [HJ.out.2.2.1]; have := HS.out; omega)
            rw [hH]
            refine ⟨T5.out.congr (fun x _ => ?_)⟩
            have h := al_short (R := R) (P := P) HJ.out.2.1 (by rw [HJ.out.2.2.1]; exact HS.out) x
            rw [HJ.out.2.2.1, HJ.out.2.2.2.1] at h
            exact h
        · have v3 : decide ((n : Int) ≤ (r : Int)) = false := decide_eq_false (by omega)
          have v4 : decide (n ≤ r) = false := decide_eq_false hs
          have HS := Aside0.mk (show r < n by omega)
          have HOFF := Aside0.mk (show (al l0 r R P j (bv (mb C n) % R)).2.2 = true → (al l0 r R P j (bv (mb C n) % R)).1 + P ≤ R + (Hl l0 r j).length * P from by
            rw [← HJ.out.2.2.2.1, al_head CK.out.1 HJ.out.1 HM.out.1.symm (by rw [HJ.out.2.2.1]; exact HS.out)]
            split
            · rename_i hin
              intro _
              have := Nat.mul_le_mul_right P (List.idxOf_lt_length_of_mem hin)
              rw [Nat.succ_mul] at this
              show R + _ * P + P ≤ _
              omega
            · intro h; cases h)
          clear hs
          go_wp2
          go_still_tail 9, (by kernel_rfl)
          change wpList _ _ _ _ _ wr.drew
          go_wp2_with (first
            | (go_at_call 18; (with_reducible refine (long_calls g b cap (R + (Hl l0 r j).length * P) j n C r rs R P (bv (mb C n)) (al l0 r R P j) w2 wr.drew (T.out.below (below_drew (Below.refl _ _))) (below_drew B.out) G5.out GB.out ⟨HS.out, HJ.out.2.2.2.2.1, HM.out.2.2.2.2.1⟩ HM.out.1 HM.out.2.1 (Nat.le_add_right _ _) HLN.out rfl HOFF.out).mono ?_); rintro e w5 ⟨rfl, hB, b5, cap5, hb5, hT⟩; have B5 := Aside0.mk hB; have T5 := Aside0.mk hT; have GB5 := Aside0.mk hb5; clear hT hB hb5))
          go_roundg q
          case measure => exact Nat.lt_succ_self _
          case rel =>
            refine ⟨wrap64 ((j : Int) + 1), j + 1, b5, cap5, rfl, ⟨NXW.out.1, NXW.out.2⟩, ⟨?_⟩, GB5, B5⟩
            have hhd := al_head (P := P) CK.out.1 HJ.out.1 HM.out.1.symm (by rw [HJ.out.2.2.1]; exact HS.out)
            rw [HJ.out.2.2.2.1] at hhd
            rcases T5.out with ⟨hf, hT⟩ | ⟨hf, hT⟩
            · have hin : tc l0 j % R ∈ Hl l0 r j := by
                rw [HJ.out.2.2.2.1]
                rw [hhd] at hf
                by_cases h : bv (mb C n) % R ∈ Hl l0 r j
                · exact h
                · rw [if_neg h] at hf; cases hf
              have hH : Hl l0 r (j + 1) = Hl l0 r j := by with_unfolding_all exact (show (if r < ln l0 j ∧ tc l0 j % 2 ^ r ∉ Hl l0 r j then _ else _) = _ from if_neg (fun e => e.2 (by rw [HM.out.1]; exact hin)))
              rw [hH]
              refine hT.congr (fun z hz => ?_)
              have h := al_long_in CK.out.1 HJ.out.1 HJ.out.2.1 HM.out.1.symm HM.out.2.2.2.2.2.2.1 (by rw [HJ.out.2.2.1]; exact HS.out) hin z hz
              rw [HJ.out.2.2.1, HJ.out.2.2.2.1] at h
              exact h
            · have hin : tc l0 j % R ∉ Hl l0 r j := by
                rw [HJ.out.2.2.2.1]
                rw [hhd] at hf
                intro h
                rw [if_pos h] at hf
                cases hf
              have hH : Hl l0 r (j + 1) = Hl l0 r j ++ [tc l0 j % 2 ^ r] := by with_unfolding_all exact (show (if r < ln l0 j ∧ tc l0 j % 2 ^ r ∉ Hl l0 r j then _ else _) = _ from if_pos ⟨by rw [HJ.out.2.2.1]; exact HS.out, by rw [HM.out.1]; exact hin⟩)
              rw [hH, List.length_append, List.length_singleton, Nat.add_mul, Nat.one_mul, ← Nat.add_assoc]
              refine hT.congr (fun z hz => ?_)
              have h := al_long_out CK.out.1 HJ.out.1 HJ.out.2.1 HM.out.1.symm HM.out.2.2.2.2.2.2.1 (by rw [HJ.out.2.2.1]; exact HS.out) hin _ rfl z hz
              rw [HJ.out.2.2.1, HJ.out.2.2.2.1] at h
              exact h
end Go.Proofs.Ytoikiefegkgedaa.Hd
