/- canon: counts, Codes and Order, walked by hand. -/
import Derived.Test.YtoikiefegkgedaaKrA
import Derived.Test.YtoikiefegkgedaaCn
import Derived.Test.YtoikiefegkgedaaHw
import Derived.StillTailTactics
set_option linter.unusedVariables false
set_option linter.unusedSimpArgs false
set_option linter.unusedSectionVars false
namespace Go.Proofs.Ytoikiefegkgedaa.Hd
open Go.RowKit Go.Proofs.YtoikiefegkgedaaW.PrintWords Go.Proofs.YtoikiefegkgedaaW.PrintLast Go.Proofs.YtoikiefegkgedaaW.PrintMore Go.Proofs.Ytoikiefegkgedaa.Hw Go.Proofs.Ytoikiefegkgedaa.Cn Go.Proofs.Ytoikiefegkgedaa.P
attribute [local go_sem] max2_int min2_int max_two min_two max_three min_three max_four min_four
theorem zero38 : (Value.agg (Array.replicate 17 (.int .i64 0))).cells = ints .i64 (List.replicate 17 0) := by kernel_rfl
theorem info38 : (Try.prog.info? 73).map (fun i => (i.zero, i.size, i.bytes)) = some (some (.agg (Array.replicate 17 (.int .i64 0))), 17, 136) := by kernel_rfl
theorem size38 (f : Nat → Int) : (Try.prog.info? 73).map (·.size) = some (tabn 17 f).length := by rw [tabn_length]; kernel_rfl
/-- How many of each length, in a table. -/
def CN (l : List Int) : List Int := tabn 17 (fun j => (cn l j : Int))
theorem CN_step {l : List Int} {m : Nat} {x : Int} (h : l[m]? = some x) (h0 : 0 < x) : (CN (l.take m)).set x.toNat ((cn (l.take m) x.toNat : Int) + 1) = CN (l.take (m + 1)) := by
  unfold CN
  rw [tabn_set]
  refine tabn_congr (fun j hj => ?_)
  rw [cn_succ h j]
  by_cases e : j = x.toNat
  · rw [if_pos e, if_pos ⟨by omega, by omega⟩, e]; omega
  · rw [if_neg e, if_neg (fun h' => e (by omega))]; rfl
theorem CN_skip {l : List Int} {m : Nat} {x : Int} (h : l[m]? = some x) (h0 : ¬ 0 < x) : CN (l.take m) = CN (l.take (m + 1)) := by
  unfold CN
  refine tabn_congr (fun j hj => ?_)
  rw [cn_succ h j, if_neg (fun h' => by omega)]
  rfl
theorem rd_at {l : List Int} {L : Int} {m : Nat} (hL : L = m) (hm : m < l.length) : l[m]? = some (rd l L) := by
  subst hL
  unfold rd
  rw [Int.toNat_natCast, List.getD_eq_getElem?_getD, List.getElem?_eq_getElem hm]; rfl
theorem rd_mem {l : List Int} {L : Int} {m : Nat} (hL : L = m) (hm : m < l.length) : rd l L ∈ l := List.mem_of_getElem? (rd_at hL hm)
set_option maxHeartbeats 4000000 in
set_option maxRecDepth 100000 in
theorem counts_calls (A0 : Option Addr) (c0 : Nat) (l : List Int) (w : World) (hr : Kd.C (Kd.int .i64) w A0 l.length l) (hc : l.length ≤ c0) (hx : ∀ x ∈ l, 0 ≤ x ∧ x ≤ 16) (hn : l.length ≤ 1024) :
    Calls Try.prog 32 #[.slice A0 l.length c0] w fun e w' => e = .returned (.agg (ints .i64 (CN l))) ∧ Below w.heap.size w w' := by
  have HR := Aside0.mk hr
  have HX := Aside0.mk hx
  have HN := Aside0.mk hn
  clear hr hc hx hn
  go_enter Try.func32, Try.ntmps32
  go_wp2_with (first
    | ((with_reducible refine gate_dst (N := 2) rfl ?_); refine alloc_blk rfl rfl info38 .i64 _ zero38 ?_; intro g2 w1 G2 K2 B1)
    | ((with_reducible refine gate_dst (N := 3) rfl ?_); refine alloc_blk rfl rfl info38 .i64 _ zero38 ?_; intro g3 w2 G3 K3 B2))
  have NE := Aside0.mk (show g2 ≠ g3 from Nat.ne_of_lt (Nat.lt_of_lt_of_le K2.out.lt G3.out))
  have G3' := Aside0.mk (Nat.le_trans B1.out.size G3.out)
  have B3 := Aside0.mk (below_step B1.out B2.out)
  have K2' := Aside0.mk (K2.out.below B2.out)
  clear K2 B1 B2 G3
  go_loopg [8] l.length (fun q v8 w' => ∃ (L : Int) (m : Nat), v8 = .int .i64 L ∧ Aside0 (L = (m : Int) ∧ m + q = l.length) ∧ Aside0 (Blk w' g2 .i64 73 (List.replicate 17 0)) ∧ Aside0 (Blk w' g3 .i64 73 (CN (l.take m))) ∧ Aside0 (Below w.heap.size w w'))
  case atStart => exact ⟨0, 0, rfl, ⟨rfl, by omega⟩, K2', ⟨by have := K3.out; rw [tabn_zero] at this; exact this⟩, B3⟩
  case round =>
    clear K2' K3 B3
    obtain ⟨L, m, rfl, HA, K2, K3, B3⟩ := hrel
    cases gk with
    | zero =>
      have t1 : decide (L < (l.length : Int)) = false := decide_eq_false (by have := HA.out; omega)
      have E := Aside0.mk (show l.take m = l from List.take_of_length_le (by have := HA.out; omega))
      rw [E.out] at K3
      go_wp2_with (first
        | ((with_reducible refine gate_dst (N := 20) rfl ?_); refine load_blk rfl 73 (.tmp 3) rfl g3 rfl .i64 (CN l) K3.out _ Try.underlying73 rfl (size38 _) ?_)
        | ((with_reducible refine gate_store (t := 73) (p := 2) rfl ?_); refine store_blk rfl 73 (.tmp 2) (.tmp 20) rfl g2 .i64 _ (CN l) rfl rfl K2.out (size38 _) (by simp [CN, tabn_length]) ?_; intro w4 K4 E4))
      refine bodyPost_ret (v := .agg (ints .i64 (CN l))) (blk_ret rfl _ _ g2 .i64 (CN l) _ rfl K4.out Try.underlying73 rfl (size38 _)) rfl ?_
      exact ⟨rfl, below_grown B3.out E4.out G2.out B3.out.size⟩
    | succ q =>
      have t1 : decide (L < (l.length : Int)) = true := decide_eq_true (by have := HA.out; omega)
      have p1 : (0 ≤ L) = True := eq_true (by have := HA.out; omega)
      have q1 : (L < (l.length : Int)) = True := eq_true (by have := HA.out; omega)
      have hat := rd_at (l := l) HA.out.1 (by have := HA.out; omega)
      have hmem := HX.out _ (rd_mem (l := l) HA.out.1 (by have := HA.out; omega))
      obtain ⟨ad, e_, hc⟩ := Kd.at_int HR.out L (by have := HA.out; omega) (by have := HA.out; omega)
      subst e_
      have hc1 := (B3.out.cell (World.block_lt_of_cell? w _ hc)).trans hc
      clear hc
      obtain ⟨x, hx⟩ : ∃ x, rd l L = x := ⟨_, rfl⟩
      rw [hx] at hat hmem hc1
      clear hx
      by_cases h0 : 0 < x
      · have t2 : decide (0 < x) = true := decide_eq_true h0
        have p2 : (0 ≤ x) = True := eq_true (by omega)
        have q2 : (x < 17) = True := eq_true (by omega)
        have hlen : (CN (l.take m)).length = 17 := tabn_length _ _
        have hcc := K3.out.cell x.toNat (by omega)
        have hval : (CN (l.take m)).getD x.toNat 0 = (cn (l.take m) x.toNat : Int) := tabn_getD (by omega)
        rw [hval] at hcc
        have hff := K3.out.free x.toNat
        have hle : cn (l.take m) x.toNat ≤ 1024 := by
          have h1 := cn_take_le l m x.toNat
          have h2 := cn_le l x.toNat
          have := HN.out
          omega
        have ew : wrap64 ((cn (l.take m) x.toNat : Int) + 1) = (cn (l.take m) x.toNat : Int) + 1 := Com.w64 (by omega) (by omega)
        have HS := Aside0.mk (And.intro hat h0)
        have NX := Aside0.mk (show g3 ≠ g2 from NE.out.symm)
        have EW := Aside0.mk ew
        clear hat hmem h0 hlen hval hle ew
        go_wp2
        go_roundg q
        case measure => omega
        case rel =>
          refine ⟨wrap64 (L + 1), m + 1, rfl, ⟨?_, by have := HA.out; omega⟩, ⟨K2.out.far NE.out _⟩, ⟨?_⟩, ⟨below_set B3.out G3'.out⟩⟩
          · have := HA.out; have := HN.out; rw [Com.w64 (by omega) (by omega)]; omega
          · rw [EW.out, ← CN_step HS.out.1 HS.out.2]
            exact K3.out.put _ _
      · have t2 : decide (0 < x) = false := decide_eq_false h0
        have HS := Aside0.mk (And.intro hat h0)
        clear hat hmem h0
        go_wp2
        go_roundg q
        case measure => omega
        case rel =>
          refine ⟨wrap64 (L + 1), m + 1, rfl, ⟨?_, by have := HA.out; omega⟩, K2, ⟨?_⟩, B3⟩
          · have := HA.out; have := HN.out; rw [Com.w64 (by omega) (by omega)]; omega
          · rw [← CN_skip HS.out.1 (Int.not_lt.2 HS.out.2)]
            exact K3.out
end Go.Proofs.Ytoikiefegkgedaa.Hd
/- canon.Codes, walked by hand. -/
namespace Go.Proofs.Ytoikiefegkgedaa.Hd
open Go.RowKit Go.Proofs.YtoikiefegkgedaaW.PrintWords Go.Proofs.YtoikiefegkgedaaW.PrintLast Go.Proofs.YtoikiefegkgedaaW.PrintMore Go.Proofs.Ytoikiefegkgedaa.Hw Go.Proofs.Ytoikiefegkgedaa.Cn Go.Proofs.Ytoikiefegkgedaa.P
attribute [local go_sem] max2_int min2_int max_two min_two max_three min_three max_four min_four
theorem ev_one {α : Type} {f : Nat → Option α} {r s : α} (h : Ev f r) (h2 : Ev f s) : r = s := by
  obtain ⟨a, ha⟩ := h
  obtain ⟨b, hb⟩ := h2
  have e1 := ha (max a b) (Nat.le_max_left _ _)
  have e2 := hb (max a b) (Nat.le_max_right _ _)
  rw [e1] at e2
  exact Option.some.inj e2
theorem check_ok {k : Nat} {l : List Int} (h : kraft_Check.f k l 16 = some 0) : l.length ≤ 1024 ∧ ∀ x ∈ l, 0 ≤ x ∧ x ≤ 16 := by
  have hlen : l.length ≤ 1024 := by
    by_cases hn : l.length ≤ 1024
    · exact hn
    · have hb : kraft_bad.f 16 = some false := by decide
      unfold kraft_Check.f at h
      rw [hb] at h
      simp only [Option.bind_some] at h
      rw [if_neg (by decide), if_pos (by omega)] at h
      exact absurd h (by decide)
  refine ⟨hlen, fun x hx => ?_⟩
  have e := ev_one (Ev.of (fun k => kraft_Check.mono l 16 k) h) (Pure.chk_ev l (by omega) 16)
  unfold Pure.chk at e
  rw [if_neg (by decide), if_neg (by omega)] at e
  by_cases ha : l.all (fun x => decide (0 ≤ x ∧ x ≤ 16)) = false
  · rw [if_pos ha] at e; exact absurd e (by decide)
  · have := List.all_eq_true.1 (Bool.not_eq_false _ ▸ ha : l.all (fun x => decide (0 ≤ x ∧ x ≤ 16)) = true) x hx
    exact of_decide_eq_true this
def canon_Codes.f (k : Nat) (l : List Int) : Option (List Int × Int) := (kraft_Check.f k l 16).bind fun t => if t = 0 then some (codesL l, 0) else some ([], t)
theorem canon_Codes.mono : ∀ (l : List Int) (k : Nat), LeO (canon_Codes.f k l) (canon_Codes.f (k + 1) l) := fun l k => LeO.bind (kraft_Check.mono l 16 k) (fun _ => LeO.refl _)
/-- Where each length begins, so far. -/
def NX (l : List Int) (k : Nat) : List Int := tabn 17 (fun j => if j < k then (F (cn l) j : Int) else if j = 0 then 0 else (cn l (j - 1) : Int))
theorem NX_start (l : List Int) : (List.replicate 17 (0 : Int)).take 1 ++ ((CN l).take 16 ++ (List.replicate 17 (0 : Int)).drop (1 + ((CN l).take 16).length)) = NX l 1 := by
  have e : ((CN l).take 16).length = 16 := by simp [CN, tabn_length]
  rw [e]
  unfold CN NX
  simp [tabn, List.range, List.range.loop, F, cn_zero]
theorem NX_step (l : List Int) (k : Nat) (h1 : 1 ≤ k) (h2 : k ≤ 16) : (NX l k).set k (((cn l (k - 1) : Int) + F (cn l) (k - 1)) * 2) = NX l (k + 1) := by
  unfold NX
  rw [tabn_set]
  refine tabn_congr (fun j hj => ?_)
  by_cases e : j = k
  · subst e
    rw [if_pos rfl, if_pos (by omega)]
    obtain ⟨i, rfl⟩ : ∃ i, j = i + 1 := ⟨j - 1, by omega⟩
    simp [F]
  · rw [if_neg e]
    by_cases h : j < k
    · rw [if_pos h, if_pos (by omega)]
    · rw [if_neg h, if_neg (by omega : ¬ j < k + 1)]
theorem NX_get (l : List Int) (k : Nat) (h1 : 1 ≤ k) (h2 : k ≤ 16) : (NX l k).getD k 0 = (cn l (k - 1) : Int) ∧ (NX l k).getD (k - 1) 0 = (F (cn l) (k - 1) : Int) := by
  unfold NX
  rw [tabn_getD (by omega), tabn_getD (by omega), if_neg (by omega), if_neg (by omega), if_pos (by omega)]
  exact ⟨rfl, rfl⟩
/-- Where each length goes on. -/
def NY (l : List Int) (m : Nat) : List Int := tabn 17 (fun j => (F (cn l) j : Int) + (cn (l.take m) j : Int))
theorem NX_NY (l : List Int) : NX l 17 = NY l 0 := by
  unfold NX NY
  refine tabn_congr (fun j hj => ?_)
  rw [if_pos hj]
  have : cn (l.take 0) j = 0 := by simp [cn]
  rw [this]; simp
theorem NY_step {l : List Int} {m : Nat} {x : Int} (h : l[m]? = some x) (h0 : 0 < x) : (NY l m).set x.toNat ((F (cn l) x.toNat : Int) + (cn (l.take m) x.toNat : Int) + 1) = NY l (m + 1) := by
  unfold NY
  rw [tabn_set]
  refine tabn_congr (fun j hj => ?_)
  rw [cn_succ h j]
  by_cases e : j = x.toNat
  · rw [if_pos e, if_pos ⟨by omega, by omega⟩, e]; omega
  · rw [if_neg e, if_neg (fun h' => e (by omega))]; rfl
theorem NY_skip {l : List Int} {m : Nat} {x : Int} (h : l[m]? = some x) (h0 : ¬ 0 < x) : NY l m = NY l (m + 1) := by
  unfold NY
  refine tabn_congr (fun j hj => ?_)
  rw [cn_succ h j, if_neg (fun h' => by omega)]
  rfl
/-- The codes of the first so many. -/
def CO (l : List Int) (m : Nat) : List Int := tabn l.length (fun i => if i < m then (code l i : Int) else 0)
theorem CO_start (l : List Int) : List.replicate l.length (0 : Int) = CO l 0 := by rw [tabn_zero]; rfl
theorem CO_end (l : List Int) : CO l l.length = codesL l := tabn_congr (fun j hj => if_pos hj)
theorem CO_step {l : List Int} {m : Nat} {x : Int} (h : l[m]? = some x) (h0 : 0 < x) : (CO l m).set m ((F (cn l) x.toNat : Int) + (cn (l.take m) x.toNat : Int)) = CO l (m + 1) := by
  unfold CO
  rw [tabn_set]
  refine tabn_congr (fun j hj => ?_)
  by_cases e : j = m
  · subst e
    rw [if_pos rfl, if_pos (by omega)]
    unfold code rank
    rw [ln_eq h, if_neg (by omega)]
    omega
  · rw [if_neg e]
    by_cases hj : j < m
    · rw [if_pos hj, if_pos (by omega)]
    · rw [if_neg hj, if_neg (by omega)]
theorem CO_skip {l : List Int} {m : Nat} {x : Int} (h : l[m]? = some x) (h0 : x = 0) : CO l m = CO l (m + 1) := by
  unfold CO
  refine tabn_congr (fun j hj => ?_)
  by_cases e : j = m
  · subst e
    rw [if_neg (by omega), if_pos (by omega)]
    unfold code
    rw [ln_eq h, if_pos (by omega)]; rfl
  · by_cases hj : j < m
    · rw [if_pos hj, if_pos (by omega)]
    · rw [if_neg hj, if_neg (by omega)]
theorem size3 : (Try.prog.info? 3).map (·.size) = some 1 := by kernel_rfl
theorem info3 : (Try.prog.info? 3).map (fun i => (i.zero, i.size, i.bytes)) = some (some (.int .i64 0), 1, 8) := by kernel_rfl
theorem drawn_b {w w1 : World} (h : Drawn0 w w1) : Below w.heap.size w w1 := by
  obtain ⟨n, rfl⟩ := h
  exact pw_below_drewN (Below.refl _ _) n
set_option maxHeartbeats 4000000 in
set_option maxRecDepth 100000 in
theorem canon_Codes.calls (k : Nat) (A0 : Option Addr) (c0 : Nat) (l0 : List Int) (r1 : List Int) (r2 : Int) (w : World) (hr0 : Kd.C (Kd.int .i64) w A0 l0.length l0) (hc0 : l0.length ≤ c0) (h : canon_Codes.f k l0 = some (r1, r2)) :
    Calls Try.prog 16 #[.slice A0 l0.length c0] w fun e w' => ∃ v0_ : Value, e = .returned (.tuple #[v0_, .int .i64 r2]) ∧ Kd.R (Kd.int .i64) 3 w' w.heap.size (fun _ => True) v0_ r1 ∧ Below w.heap.size w w' := by
  unfold canon_Codes.f at h
  replace h := Option.bind_eq_some_iff.mp h
  obtain ⟨t, ht, h⟩ := h
  have KC := Aside0.mk ht
  have HR := Aside0.mk hr0
  have HC := Aside0.mk hc0
  by_cases t0 : t = 0
  · subst t0
    rw [if_pos rfl] at h
    obtain ⟨rfl, rfl⟩ := Prod.mk.inj (Option.some.inj h)
    have HK := Aside0.mk (check_ok ht)
    clear h ht hr0 hc0
    go_enter Try.func16, Try.ntmps16
    go_wp2_with (first
      | (go_at_call 15; (with_reducible refine (kraft_Check.calls k _ _ l0 16 0 _ HR.out HC.out KC.out).mono ?_); rintro e w1 ⟨rfl, hB⟩; have B1 := Aside0.mk (Hd.drawn_b hB); clear hB)
      | (go_at_call 32; (with_reducible refine (counts_calls _ _ l0 _ (Kd.C_below HR.out B1.out) HC.out HK.out.2 HK.out.1).mono ?_); rintro e w2 ⟨rfl, hB⟩; have B2 := Aside0.mk (below_step B1.out hB); clear hB)
      | ((with_reducible refine gate_dst (N := 5) rfl ?_); refine alloc_blk rfl rfl info38 .i64 _ zero38 ?_; intro g5 w3 G5 K5 B3)
      | ((with_reducible refine gate_dst (N := 6) rfl ?_); refine alloc_blk rfl rfl info38 .i64 _ zero38 ?_; intro g6 w4 G6 K6 B4)
      | ((with_reducible refine gate_store (t := 73) (p := 5) rfl ?_); refine store_blk rfl 73 (.tmp 5) (.tmp 17) rfl g5 .i64 _ (CN l0) rfl rfl K5.out (size38 _) (by simp [CN, tabn_length]) ?_; intro w5 L5 E5))
    have NE := Aside0.mk (show g5 ≠ g6 from Nat.ne_of_lt (Nat.lt_of_lt_of_le L5.out.lt G6.out))
    have G5' := Aside0.mk (Nat.le_trans B2.out.size G5.out)
    have B5 := Aside0.mk (below_grown (below_step B2.out B3.out) E5.out G5'.out (below_step B2.out B3.out).size)
    have G6' := Aside0.mk (Nat.le_trans B5.out.size G6.out)
    have B6 := Aside0.mk (below_step B5.out B4.out)
    have L5' := Aside0.mk (L5.out.below B4.out)
    clear K5 B1 B2 B3 B4 B5 G5 G6 E5 L5 KC
    go_still_tail 2, (by kernel_rfl)
    refine copy_event (w := w4.drew) rfl (.tmp 18) (.tmp 19) 22 22 rfl 3 Try.underlying22 size3 rfl rfl g6 1 .i64 73 (List.replicate 17 0) ((CN l0).take 16) K6.out ?hn ?hpos ?hfit ?_
    case hn => simp [CN, tabn_length]
    case hpos =>
      intro hp
      refine ⟨rfl, _, rfl, fun j hj => ?_⟩
      have hj2 : j < 16 := by simp [CN, tabn_length] at hj; omega
      have h1 : ((CN l0).take 16).getD j 0 = (CN l0).getD j 0 := by simp [List.getD_eq_getElem?_getD, List.getElem?_take, hj2]
      rw [h1]
      have hlen : (CN l0).length = 17 := tabn_length _ _
      have ea : (⟨g5, 0, none⟩ : Addr).add j = ⟨g5, j, none⟩ := by unfold Addr.add; split <;> simp_all
      rw [ea]
      exact L5'.out.cell j (by omega)
    case hfit => simp [CN, tabn_length]
    intro w6 K7 E7
    rw [NX_start] at K7
    have B7 := Aside0.mk (below_grown (below_drew B6.out) E7 G6'.out B6.out.size)
    clear K6 B6 E7 L5'
    go_wp2
    go_loopg [7] 16 (fun q v7 w' => ∃ (K : Int) (m : Nat), v7 = .int .i64 K ∧ Aside0 (K = (m : Int) ∧ 1 ≤ m ∧ m + q = 17) ∧ Aside0 (Blk w' g6 .i64 73 (NX l0 m)) ∧ Aside0 (Below w.heap.size w w'))
    case atStart => exact ⟨1, 1, rfl, ⟨rfl, by omega, by omega⟩, K7, B7⟩
    case round =>
      clear K7 B7
      obtain ⟨K, m, rfl, HM, K8, B8⟩ := hrel
      cases gk with
      | zero =>
        have t1 : decide (K ≤ 16) = false := decide_eq_false (by have := HM.out; omega)
        have em : m = 17 := by have := HM.out; omega
        subst em
        rw [NX_NY] at K8
        go_wp2_with (first
          | ((with_reducible refine gate_dst (N := 38) rfl ?_); refine make_blk rfl rfl l0.length rfl rfl Try.underlying22 .i64 info3 (by decide) (by have := HK.out.1; omega) ?_; intro g8 w9 G8 K9 B9))
        have NE2 := Aside0.mk (show g6 ≠ g8 from Nat.ne_of_lt (Nat.lt_of_lt_of_le K8.out.lt G8.out))
        have G8' := Aside0.mk (Nat.le_trans B8.out.size G8.out)
        have K8' := Aside0.mk (K8.out.below B9.out)
        have B9' := Aside0.mk (below_step B8.out B9.out)
        rw [CO_start] at K9
        clear K8 B8 B9 G8 HM t1
        go_loopg [41] l0.length (fun q v41 w' => ∃ (L : Int) (m : Nat), v41 = .int .i64 L ∧ Aside0 (L = (m : Int) ∧ m + q = l0.length) ∧ Aside0 (Blk w' g6 .i64 73 (NY l0 m)) ∧ Aside0 (Blk w' g8 .i64 3 (CO l0 m)) ∧ Aside0 (Below w.heap.size w w'))
        case atStart => exact ⟨0, 0, rfl, ⟨rfl, by omega⟩, K8', K9, B9'⟩
        case round =>
          clear K8' K9 B9'
          obtain ⟨L, m, rfl, HA, K8, K9, B3⟩ := hrel
          cases gk with
          | zero =>
            have t1 : decide (L < (l0.length : Int)) = false := decide_eq_false (by have := HA.out; omega)
            have em : m = l0.length := by have := HA.out; omega
            subst em
            rw [CO_end] at K9
            go_wp2
            go_ret2
            have hl : (codesL l0).length = l0.length := tabn_length _ _
            have := K9.out.R (base := w.heap.size) G8'.out (by rw [hl]; have := HK.out.1; simp [maxLen]; omega) (fun _ => True) trivial
            rw [hl] at this
            exact ⟨_, rfl, this, B3.out⟩
          | succ q =>
            have t1 : decide (L < (l0.length : Int)) = true := decide_eq_true (by have := HA.out; omega)
            have p1 : (0 ≤ L) = True := eq_true (by have := HA.out; omega)
            have q1 : (L < (l0.length : Int)) = True := eq_true (by have := HA.out; omega)
            have hat := rd_at (l := l0) HA.out.1 (by have := HA.out; omega)
            have hmem := HK.out.2 _ (rd_mem (l := l0) HA.out.1 (by have := HA.out; omega))
            obtain ⟨ad, e_, hc⟩ := Kd.at_int HR.out L (by have := HA.out; omega) (by have := HA.out; omega)
            subst e_
            have hc1 := (B3.out.cell (World.block_lt_of_cell? w _ hc)).trans hc
            clear hc
            obtain ⟨x, hx⟩ : ∃ x, rd l0 L = x := ⟨_, rfl⟩
            rw [hx] at hat hmem hc1
            clear hx
            by_cases h0 : 0 < x
            · have t2 : decide (0 < x) = true := decide_eq_true h0
              have p2 : (0 ≤ x) = True := eq_true (by omega)
              have q2 : (x < 17) = True := eq_true (by omega)
              have hlen : (NY l0 m).length = 17 := tabn_length _ _
              have hcc := K8.out.cell x.toNat (by omega)
              have hval : (NY l0 m).getD x.toNat 0 = (F (cn l0) x.toNat : Int) + (cn (l0.take m) x.toNat : Int) := tabn_getD (by omega)
              rw [hval] at hcc
              have hff := K8.out.free x.toNat
              have hff2 := K9.out.free L.toNat
              have hle : cn (l0.take m) x.toNat ≤ 1024 := by
                have h1 := cn_take_le l0 m x.toNat
                have h2 := cn_le l0 x.toNat
                have := HK.out.1
                omega
              have hF := F_le16 (cn l0) (fun j => Nat.le_trans (cn_le l0 j) HK.out.1) x.toNat (by omega)
              have ew : wrap64 ((F (cn l0) x.toNat : Int) + (cn (l0.take m) x.toNat : Int) + 1) = (F (cn l0) x.toNat : Int) + (cn (l0.take m) x.toNat : Int) + 1 := Com.w64 (by omega) (by omega)
              have hcl : L.toNat < (CO l0 m).length := by have := HA.out; rw [CO, tabn_length]; omega
              have hcc2 := K9.out.cell L.toNat hcl
              have hcc3 := (blk_far (p := ⟨g8, L.toNat, none⟩) K8.out NE2.out (.int .i64 ((F (cn l0) x.toNat : Int) + (cn (l0.take m) x.toNat : Int))))
              have hcc4 := (blk_cell hcc3 x.toNat).trans ((ints_get (by omega)).trans (by rw [hval]))
              have hff4 := blk_frozen hcc3 x.toNat
              have HS := Aside0.mk (And.intro hat h0)
              have EW := Aside0.mk ew
              have EL := Aside0.mk (show L.toNat = m by have := HA.out; omega)
              clear hat hmem h0 hlen hval hle ew hF hcl hcc3
              go_wp2
              go_roundg q
              case measure => omega
              case rel =>
                refine ⟨wrap64 (L + 1), m + 1, rfl, ⟨?_, by have := HA.out; omega⟩, ⟨?_⟩, ⟨?_⟩, ⟨below_set (below_set B3.out G8'.out) G6'.out⟩⟩
                · have := HA.out; have := HK.out.1; rw [Com.w64 (by omega) (by omega)]; omega
                · rw [EW.out, ← NY_step HS.out.1 HS.out.2]
                  exact (K8.out.far NE2.out _).put _ _
                · rw [EL.out, ← CO_step HS.out.1 HS.out.2]
                  exact (K9.out.put _ _).far NE2.out.symm _
            · have t2 : decide (0 < x) = false := decide_eq_false h0
              have HS := Aside0.mk (And.intro hat (And.intro h0 (show x = 0 by omega)))
              clear hat hmem h0
              go_wp2
              go_roundg q
              case measure => omega
              case rel =>
                refine ⟨wrap64 (L + 1), m + 1, rfl, ⟨?_, by have := HA.out; omega⟩, ⟨?_⟩, ⟨?_⟩, B3⟩
                · have := HA.out; have := HK.out.1; rw [Com.w64 (by omega) (by omega)]; omega
                · rw [← NY_skip HS.out.1 (by have := HS.out.2.2; omega)]
                  exact K8.out
                · rw [← CO_skip HS.out.1 HS.out.2.2]
                  exact K9.out
      | succ q =>
        have t1 : decide (K ≤ 16) = true := decide_eq_true (by have := HM.out; omega)
        have p1 : (0 ≤ K) = True := eq_true (by have := HM.out; omega)
        have q1 : (K < 17) = True := eq_true (by have := HM.out; omega)
        have eM : IntKind.i64.wrap (K - 1) = K - 1 := by rw [i64_w]; exact Com.w64 (by have := HM.out; omega) (by have := HM.out; omega)
        have p2 : (0 ≤ IntKind.i64.wrap (K - 1)) = True := eq_true (by have := HM.out; omega)
        have q2 : (IntKind.i64.wrap (K - 1) < 17) = True := eq_true (by have := HM.out; omega)
        have hlen : (NX l0 m).length = 17 := tabn_length _ _
        have hg := NX_get l0 m (by have := HM.out; omega) (by have := HM.out; omega)
        have eN : K.toNat = m := by have := HM.out; omega
        have eN2 : (IntKind.i64.wrap (K - 1)).toNat = m - 1 := by have := HM.out; omega
        have c1 : wr.cell? ⟨g6, K.toNat, none⟩ = some (.int .i64 (cn l0 (m - 1) : Int)) := by
          have := K8.out.cell m (by have := HM.out; omega)
          rw [hg.1] at this
          rw [eN]; exact this
        have c2 : wr.cell? ⟨g6, (IntKind.i64.wrap (K - 1)).toNat, none⟩ = some (.int .i64 (F (cn l0) (m - 1) : Int)) := by
          have := K8.out.cell (m - 1) (by have := HM.out; omega)
          rw [hg.2] at this
          rw [eN2]; exact this
        have ff := K8.out.free K.toNat
        have EN := Aside0.mk eN
        have hF := F_le16 (cn l0) (fun j => Nat.le_trans (cn_le l0 j) HK.out.1) (m - 1) (by have := HM.out; omega)
        have hC := Nat.le_trans (cn_le l0 (m - 1)) HK.out.1
        have EV := Aside0.mk (show IntKind.i64.wrap (IntKind.i64.wrap ((cn l0 (m - 1) : Int) + (F (cn l0) (m - 1) : Int)) * 2) = ((cn l0 (m - 1) : Int) + (F (cn l0) (m - 1) : Int)) * 2 by
          rw [i64_w, i64_w, Com.w64 (x := (cn l0 (m - 1) : Int) + (F (cn l0) (m - 1) : Int)) (by omega) (by omega), Com.w64 (by omega) (by omega)])
        clear hF hC
        clear hlen hg eN eN2 eM
        go_wp2
        go_still_tail 11, (by kernel_rfl)
        change wpList _ _ _ _ _ wr.drew
        rw [EV.out]
        go_wp2
        go_roundg q
        case measure => omega
        case rel =>
          refine ⟨wrap64 (K + 1), m + 1, rfl, ⟨?_, by omega, by have := HM.out; omega⟩, ⟨?_⟩, ⟨below_set (below_drew B8.out) G6'.out⟩⟩
          · have := HM.out; rw [Com.w64 (by omega) (by omega)]; omega
          · rw [EN.out, ← NX_step l0 m (by have := HM.out; omega) (by have := HM.out; omega)]
            exact K8.out.drew.put _ _
  · rw [if_neg t0] at h
    obtain ⟨rfl, rfl⟩ := Prod.mk.inj (Option.some.inj h)
    clear h ht hr0 hc0
    have t1 : (t != 0) = true := by simpa using t0
    go_enter Try.func16, Try.ntmps16
    go_wp2_with (first
      | (go_at_call 15; (with_reducible refine (kraft_Check.calls k _ _ l0 16 t _ HR.out HC.out KC.out).mono ?_); rintro e w1 ⟨rfl, hB⟩; have B1 := Aside0.mk (Hd.drawn_b hB); clear hB))
    go_ret2
    exact ⟨_, rfl, Kd.R_nil _ _ _ _ _, B1.out⟩
end Go.Proofs.Ytoikiefegkgedaa.Hd
/- The order of codes, by tables. -/
namespace Go.Proofs.Ytoikiefegkgedaa.Hd
open Go.RowKit Go.Proofs.YtoikiefegkgedaaW.PrintWords Go.Proofs.YtoikiefegkgedaaW.PrintLast Go.Proofs.YtoikiefegkgedaaW.PrintMore Go.Proofs.Ytoikiefegkgedaa.Hw Go.Proofs.Ytoikiefegkgedaa.Cn Go.Proofs.Ytoikiefegkgedaa.P
attribute [local go_sem] max2_int min2_int max_two min_two max_three min_three max_four min_four
/-- Where each length's symbols begin, so far. -/
def AT (l : List Int) (k : Nat) : List Int := tabn 18 (fun j => if j ≤ k then (S (cn l) j : Int) else 0)
theorem AT_start (l : List Int) : List.replicate 18 (0 : Int) = AT l 1 := by
  rw [tabn_zero]
  refine tabn_congr (fun j hj => ?_)
  by_cases h : j ≤ 1
  · rw [if_pos h]
    match j, h with
    | 0, _ => rfl
    | 1, _ => rfl
  · rw [if_neg h]
theorem AT_step (l : List Int) (k : Nat) (h2 : k ≤ 16) : (AT l k).set (k + 1) ((S (cn l) k : Int) + (cn l k : Int)) = AT l (k + 1) := by
  unfold AT
  rw [tabn_set]
  refine tabn_congr (fun j hj => ?_)
  by_cases e : j = k + 1
  · subst e
    rw [if_pos rfl, if_pos (Nat.le_refl _)]
    simp [S]
  · rw [if_neg e]
    by_cases h : j ≤ k
    · rw [if_pos h, if_pos (by omega)]
    · rw [if_neg h, if_neg (by omega : ¬ j ≤ k + 1)]
/-- Where each length's symbols go on. -/
def AY (l : List Int) (m : Nat) : List Int := tabn 18 (fun j => ((S (cn l) j + if j < 17 then cn (l.take m) j else 0 : Nat) : Int))
theorem AT_AY (l : List Int) : AT l 17 = AY l 0 := by
  refine tabn_congr (fun j hj => ?_)
  rw [if_pos (by omega)]
  have : cn (l.take 0) j = 0 := by simp [cn]
  rw [this]
  split <;> rfl
theorem AY_step {l : List Int} {m : Nat} {x : Int} (h : l[m]? = some x) (h0 : 0 < x) (h16 : x ≤ 16) : (AY l m).set x.toNat (((S (cn l) x.toNat + cn (l.take m) x.toNat : Nat) : Int) + 1) = AY l (m + 1) := by
  unfold AY
  rw [tabn_set]
  refine tabn_congr (fun j hj => ?_)
  by_cases e : j = x.toNat
  · subst e
    rw [if_pos rfl, if_pos (by omega), cn_succ h, if_pos ⟨by omega, by omega⟩]
    omega
  · rw [if_neg e]
    by_cases hj : j < 17
    · rw [if_pos hj, if_pos hj, cn_succ h j, if_neg (fun h' => e (by omega))]; rfl
    · rw [if_neg hj, if_neg hj]
theorem AY_skip {l : List Int} {m : Nat} {x : Int} (h : l[m]? = some x) (h0 : ¬ 0 < x) : AY l m = AY l (m + 1) := by
  refine tabn_congr (fun j hj => ?_)
  have hn : ¬ (j ≠ 0 ∧ x = (j : Int)) := by omega
  rw [cn_succ h j, if_neg hn, Nat.add_zero]
/-- The symbols so far, at their places. -/
def OO (l : List Int) (m : Nat) : List Int := tabn (ord l).length (fun p => if od l p < m then (od l p : Int) else 0)
theorem OO_start (l : List Int) : List.replicate (ord l).length (0 : Int) = OO l 0 := by rw [tabn_zero]; rfl
theorem OO_end (l : List Int) : OO l l.length = (ord l).map (fun n : Nat => (n : Int)) := by
  apply List.ext_getElem?
  intro i
  by_cases hi : i < (ord l).length
  · unfold OO
    have h1 := (od_mem hi).1
    rw [tabn_get hi, if_pos h1, List.getElem?_map, List.getElem?_eq_getElem hi]
    unfold od
    rw [List.getD_eq_getElem?_getD, List.getElem?_eq_getElem hi]; rfl
  · rw [List.getElem?_eq_none (by rw [OO, tabn_length]; omega), List.getElem?_eq_none (by simp; omega)]
theorem at_lt {l : List Int} (hl : ∀ x ∈ l, 0 ≤ x ∧ x ≤ 16) {m : Nat} {x : Int} (h : l[m]? = some x) (h0 : 0 < x) : S (cn l) x.toNat + cn (l.take m) x.toNat < (ord l).length := by
  have hm : m < l.length := (List.getElem?_eq_some_iff.1 h).1
  have hg : l.getD m 0 = x := by rw [List.getD_eq_getElem?_getD, h]; rfl
  have := (od_pos hl hm (by rw [hg]; exact h0)).1
  unfold pos rank at this
  rw [ln_eq h] at this
  exact this
theorem OO_step {l : List Int} (hl : ∀ x ∈ l, 0 ≤ x ∧ x ≤ 16) {m : Nat} {x : Int} (h : l[m]? = some x) (h0 : 0 < x) : (OO l m).set (S (cn l) x.toNat + cn (l.take m) x.toNat) (m : Int) = OO l (m + 1) := by
  have hm : m < l.length := (List.getElem?_eq_some_iff.1 h).1
  have hg : l.getD m 0 = x := by rw [List.getD_eq_getElem?_getD, h]; rfl
  have hp := (od_pos hl hm (by rw [hg]; exact h0)).2
  have hpe : pos l m = S (cn l) x.toNat + cn (l.take m) x.toNat := by unfold pos rank; rw [ln_eq h]
  rw [← hpe]
  unfold OO
  rw [tabn_set]
  refine tabn_congr (fun j hj => ?_)
  by_cases e : j = pos l m
  · subst e
    rw [if_pos rfl, hp, if_pos (by omega)]
  · rw [if_neg e]
    have hne : od l j ≠ m := fun e2 => e (by rw [← pos_od hl hj, e2])
    by_cases hj2 : od l j < m
    · rw [if_pos hj2, if_pos (by omega)]
    · rw [if_neg hj2, if_neg (by omega)]
theorem OO_skip {l : List Int} {m : Nat} {x : Int} (h : l[m]? = some x) (h0 : ¬ 0 < x) : OO l m = OO l (m + 1) := by
  refine tabn_congr (fun j hj => ?_)
  have hne : od l j ≠ m := by
    rintro rfl
    have := (od_mem hj).2.1
    rw [List.getD_eq_getElem?_getD, h] at this
    exact h0 this
  by_cases hj2 : od l j < m
  · rw [if_pos hj2, if_pos (by omega)]
  · rw [if_neg hj2, if_neg (by omega)]
theorem ord_le (l : List Int) (h : l.length ≤ 1024) : (ord l).length ≤ 17408 := by
  rw [ord_length]
  have := S_le (cn l) 1024 (fun j => Nat.le_trans (cn_le l j) h) 17
  omega
end Go.Proofs.Ytoikiefegkgedaa.Hd
/- Bit by bit: what a row of bits says. -/
namespace Go.Proofs.Ytoikiefegkgedaa.Hd
open Go Go.RowKit Go.Proofs.YtoikiefegkgedaaW.PrintWords Go.Proofs.Ytoikiefegkgedaa.Com Go.Proofs.Ytoikiefegkgedaa.Cn Go.Proofs.Ytoikiefegkgedaa.P
/-- Bit by bit: from a length on, with what was read. -/
def sdm (l : List Int) : Nat → Nat → Nat → List Bool → Int × Int × Int
  | 0, _, _, _ => (0, 0, 4)
  | _ + 1, _, _, [] => (0, 0, 3)
  | m + 1, k, c, b :: t =>
    if 2 * c + (if b then 1 else 0) < F (cn l) k + cn l k then ((od l (S (cn l) k + (2 * c + (if b then 1 else 0) - F (cn l) k)) : Int), (k : Int), 0)
    else if S (cn l) (k + 1) = (ord l).length then (0, 0, 4) else sdm l m (k + 1) (2 * c + (if b then 1 else 0)) t
end Go.Proofs.Ytoikiefegkgedaa.Hd
