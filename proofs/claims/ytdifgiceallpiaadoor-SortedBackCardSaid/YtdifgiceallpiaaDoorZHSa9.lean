/- suffix: doubled's function values, walked by hand. -/
import Derived.Test.YtdifgiceallpiaaDoorZHSa8
set_option linter.unusedVariables false
set_option linter.unusedSimpArgs false
set_option linter.unusedSectionVars false
namespace Go.Proofs.YtdifgiceallpiaaDoor.Hd
open Go Go.RowKit Go.Proofs.YtdifgiceallpiaaDoorW.PrintWords Go.Proofs.YtdifgiceallpiaaDoorW.PrintLast Go.Proofs.YtdifgiceallpiaaDoorW.PrintMore Go.Proofs.YtdifgiceallpiaaDoor.Hw Go.Proofs.YtdifgiceallpiaaDoor.Com Go.Proofs.YtdifgiceallpiaaDoor.Cn Go.Proofs.YtdifgiceallpiaaDoor.P Go.Proofs.YtdifgiceallpiaaDoor.Sais
attribute [local go_sem] max2_int min2_int max_two min_two max_three min_three max_four min_four
section
variable {P : Program} {ops : Array Oper} {Q : Exit → Act → World → Prop}
/-- A call of a function value in a region that draws. -/
theorem goesVd_ {oi : Oper} {N : Option Tmp} {a : Act} {w : World} {K : Act → World → Prop} {f : FuncId} {fn : Func} {x : Operand} {as_ : Array Operand} {ts : Array TypeId} {fst cap : Array Value} (hf : P.funcs[f]? = some fn) (hname : (fn.name == "runtime.NumGoroutine") = false) (hb : fn.body.isSome = true) (args : Array Value)
    (hw : Region.wanted oi (yielded ops a.tmps) = true) (hN : oi.dst = N) (hop : oi.op = .call { callee := .value x, args := as_, argTypes := ts }) (hx : a.eval x = .func (.func f) fst cap) (hargs : fst ++ as_.map a.eval ++ cap = args)
    (h : Calls P f args w fun e w' => ∃ v, e = .returned v ∧ K (a.put N v) w') : if Region.wanted oi (yielded ops a.tmps) = true then Oper.wp P oi a w K Q else K (a.put N undef) w := by
  refine call_ f args hw hN ?_ h
  have he := enters_ hf hname hb args w
  unfold execOp
  simp [hop, resolve, Deferred.ofValue, invoke, hx, hargs, he]
theorem alloc_var {rest : List Oper} {o : Oper} {a : Act} {W : World} (hgd : o.guard = none) {t : TypeId} {z : Value} {size bytes : Nat} {cs : Array Value} (ho : o.op = .alloc t) (hinfo : (P.info? t).map (fun i => (i.zero, i.size, i.bytes)) = some (some z, size, bytes)) (hc : z.cells = cs)
    (h : ∀ (g : Nat) (w1 : World), Aside0 (g = W.heap.size) → Aside0 (w1.heap[g]? = some (.cells cs t (0, 0))) → Aside0 (Below W.heap.size W w1) → wpList P ops Q rest (a.put o.dst (.pointer (some ⟨g, 0, none⟩))) w1) : wpList P ops Q (o :: rest) a W :=
  alloc_event hgd ho hinfo hc (h _ _ ⟨rfl⟩ ⟨blk_new W _⟩ ⟨below_alloc (Below.refl _ _) _⟩)
end
theorem info22 : (Tryd.prog.info? 29).map (fun i => (i.zero, i.size, i.bytes)) = some (some (.slice none 0 0), 1, 24) := by kernel_rfl
/-- The variables that function values read. -/
structure Env (gr gk n : Nat) (rk : Nat → Nat) (W : World) : Prop where
  r : W.heap[gr]? = some (.cells #[.slice (some ⟨gk, 0, none⟩) n n] 29 (0, 0))
  k : Blk W gk .i64 3 (tabn n (fun p => (rk p : Int)))
theorem Env.below {gr gk n : Nat} {rk : Nat → Nat} {W W1 : World} (h : Env gr gk n rk W) (hB : Below W.heap.size W W1) : Env gr gk n rk W1 := ⟨blk_below h.r hB, h.k.below hB⟩
theorem Env.old {gr gk n : Nat} {rk : Nat → Nat} {w W : World} (h : Env gr gk n rk w) (hB : Below w.heap.size w W) : Env gr gk n rk W := h.below hB
theorem Env.ck {gr gk n : Nat} {rk : Nat → Nat} {W : World} (h : Env gr gk n rk W) {p : Nat} (hp : p < n) : W.cell? ⟨gk, p, none⟩ = some (.int .i64 (rk p : Int)) := by
  have := h.k.cell p (by rw [tabn_length]; exact hp)
  rw [tabn_getD hp] at this
  exact this
set_option maxHeartbeats 2000000 in
set_option maxRecDepth 100000 in
theorem first1_ok (gr gk n p : Nat) (rk : Nat → Nat) (w : World) (h : Env gr gk n rk w) (hp : p < n) : Calls Tryd.prog 69 #[.int .i64 (p : Int), .pointer (some ⟨gr, 0, none⟩)] w fun e w' => e = .returned (.int .i64 (rk p : Int)) ∧ Below w.heap.size w w' := by
  have k1 : w.cell? ⟨gr, 0, none⟩ = some (.slice (some ⟨gk, 0, none⟩) n n) := (blk_cell h.r 0).trans rfl
  have k2 := h.ck hp
  have p1 : ((p : Int) < (n : Int)) = True := eq_true (by omega)
  have p2 : (p < n) = True := eq_true hp
  clear h hp
  go_enter Tryd.func69, Tryd.ntmps69
  go_wp2
  go_ret
  exact ⟨rfl, Below.refl _ _⟩
set_option maxHeartbeats 2000000 in
set_option maxRecDepth 100000 in
theorem first3_ok (gr gk n p : Nat) (rk : Nat → Nat) (w : World) (h : Env gr gk n rk w) (hp : p < n) : Calls Tryd.prog 71 #[.int .i64 (p : Int), .pointer (some ⟨gr, 0, none⟩)] w fun e w' => e = .returned (.int .i64 (rk p : Int)) ∧ Below w.heap.size w w' := by
  have k1 : w.cell? ⟨gr, 0, none⟩ = some (.slice (some ⟨gk, 0, none⟩) n n) := (blk_cell h.r 0).trans rfl
  have k2 := h.ck hp
  have p1 : ((p : Int) < (n : Int)) = True := eq_true (by omega)
  have p2 : (p < n) = True := eq_true hp
  clear h hp
  go_enter Tryd.func71, Tryd.ntmps71
  go_wp2
  go_ret
  exact ⟨rfl, Below.refl _ _⟩
/-- And the step. -/
structure Env2 (gs gn gr gk n h : Nat) (rk : Nat → Nat) (W : World) : Prop where
  e : Env gr gk n rk W
  s : W.heap[gs]? = some (.cells #[.int .i64 (h : Int)] 3 (0, 0))
  n : W.heap[gn]? = some (.cells #[.int .i64 (n : Int)] 3 (0, 0))
theorem Env2.below {gs gn gr gk n h : Nat} {rk : Nat → Nat} {W W1 : World} (hE : Env2 gs gn gr gk n h rk W) (hB : Below W.heap.size W W1) : Env2 gs gn gr gk n h rk W1 := ⟨hE.e.below hB, blk_below hE.s hB, blk_below hE.n hB⟩
set_option maxHeartbeats 4000000 in
set_option maxRecDepth 100000 in
theorem second_ok (gs gn gr gk h p : Nat) (x : List Nat) (rk : Nat → Nat) (w : World) (hE : Env2 gs gn gr gk x.length h rk w) (hp : p < x.length) (hh : h ≤ 1073741824) (hx : x.length ≤ 1073741824) :
    Calls Tryd.prog 70 #[.int .i64 (p : Int), .pointer (some ⟨gs, 0, none⟩), .pointer (some ⟨gn, 0, none⟩), .pointer (some ⟨gr, 0, none⟩)] w fun e w' => e = .returned (.int .i64 (snd2 x h rk p : Int)) ∧ Below w.heap.size w w' := by
  obtain ⟨n, hn⟩ : ∃ n, x.length = n := ⟨_, rfl⟩
  have hs2 : snd2 x h rk p = if n ≤ p + h then 0 else rk (p + h) := by rw [← hn]; rfl
  rw [hn] at hE hp hx
  have k1 : w.cell? ⟨gr, 0, none⟩ = some (.slice (some ⟨gk, 0, none⟩) n n) := (blk_cell hE.e.r 0).trans rfl
  have k2 : w.cell? ⟨gs, 0, none⟩ = some (.int .i64 (h : Int)) := (blk_cell hE.s 0).trans rfl
  have k3 : w.cell? ⟨gn, 0, none⟩ = some (.int .i64 (n : Int)) := (blk_cell hE.n 0).trans rfl
  have e1 : wrap64 ((n : Int) - (p : Int)) = ((n - p : Nat) : Int) := by rw [w64 (by omega) (by omega)]; omega
  obtain ⟨d, hd⟩ : ∃ d, n - p = d := ⟨_, rfl⟩
  obtain ⟨d1, hd1⟩ : ∃ d1, d - 1 = d1 := ⟨_, rfl⟩
  rw [hd] at e1
  have e2 : wrap64 ((d : Int) - 1) = (d1 : Int) := by rw [w64 (by omega) (by omega)]; omega
  by_cases hc : n ≤ p + h
  · have t1 : decide ((d1 : Int) < (h : Int)) = true := decide_eq_true (by omega)
    have t2 : decide (d1 < h) = true := decide_eq_true (by omega)
    rw [if_pos hc] at hs2
    rw [hs2]
    clear hE hp hx hh hd hd1 hc hs2 hn
    go_enter Tryd.func70, Tryd.ntmps70
    go_wp2
    go_ret
    exact ⟨rfl, Below.refl _ _⟩
  · have t1 : decide ((d1 : Int) < (h : Int)) = false := decide_eq_false (by omega)
    have t2 : decide (d1 < h) = false := decide_eq_false (by omega)
    obtain ⟨q, hq⟩ : ∃ q, p + h = q := ⟨_, rfl⟩
    rw [if_neg hc, hq] at hs2
    rw [hs2]
    have hqn : q < n := by omega
    have e3 : wrap64 ((p : Int) + (h : Int)) = (q : Int) := by rw [w64 (by omega) (by omega)]; omega
    have k4 := hE.e.ck hqn
    have p1 : ((q : Int) < (n : Int)) = True := eq_true (Int.ofNat_lt.2 hqn)
    have p2 : (q < n) = True := eq_true hqn
    clear hE hp hx hh hd hd1 hc hs2 hn hq hqn
    go_enter Tryd.func70, Tryd.ntmps70
    go_wp2
    go_ret
    exact ⟨rfl, Below.refl _ _⟩
theorem rank1 {gr gk n : Nat} {rk : Nat → Nat} {w : World} (h : Env gr gk n rk w) {P : List Nat} (hP : ∀ p ∈ P, p < n) : RankV w 69 #[.pointer (some ⟨gr, 0, none⟩)] P rk :=
  fun p hp w' hB => first1_ok gr gk n p rk w' (h.below hB) (hP p hp)
theorem rank3 {gr gk n : Nat} {rk : Nat → Nat} {w : World} (h : Env gr gk n rk w) {P : List Nat} (hP : ∀ p ∈ P, p < n) : RankV w 71 #[.pointer (some ⟨gr, 0, none⟩)] P rk :=
  fun p hp w' hB => first3_ok gr gk n p rk w' (h.below hB) (hP p hp)
theorem rank2 {gs gn gr gk h : Nat} {x : List Nat} {rk : Nat → Nat} {w : World} (hE : Env2 gs gn gr gk x.length h rk w) (hh : h ≤ 1073741824) (hx : x.length ≤ 1073741824) {P : List Nat} (hP : ∀ p ∈ P, p < x.length) :
    RankV w 70 #[.pointer (some ⟨gs, 0, none⟩), .pointer (some ⟨gn, 0, none⟩), .pointer (some ⟨gr, 0, none⟩)] P (snd2 x h rk) :=
  fun p hp w' hB => second_ok gs gn gr gk h p x rk w' (hE.below hB) (hP p hp) hh hx
end Go.Proofs.YtdifgiceallpiaaDoor.Hd
