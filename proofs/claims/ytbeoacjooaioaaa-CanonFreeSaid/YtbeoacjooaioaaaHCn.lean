/- canon: counts, Codes and Order, walked by hand. -/
import Derived.Test.YtbeoacjooaioaaaKrA
import Derived.Test.YtbeoacjooaioaaaCn
import Derived.Test.YtbeoacjooaioaaaHw2
import Derived.StillTailTactics
set_option linter.unusedVariables false
set_option linter.unusedSimpArgs false
set_option linter.unusedSectionVars false
namespace Go.Proofs.Ytbeoacjooaioaaa.Hd
open Go.RowKit Go.Proofs.YtbeoacjooaioaaaW.PrintWords Go.Proofs.YtbeoacjooaioaaaW.PrintLast Go.Proofs.YtbeoacjooaioaaaW.PrintMore Go.Proofs.Ytbeoacjooaioaaa.Hw Go.Proofs.Ytbeoacjooaioaaa.Cn Go.Proofs.Ytbeoacjooaioaaa.P
attribute [local go_sem] max2_int min2_int max_two min_two max_three min_three max_four min_four
theorem zero38 : (Value.agg (Array.replicate 17 (.int .i64 0))).cells = ints .i64 (List.replicate 17 0) := by kernel_rfl
theorem info38 : (Try.prog.info? 38).map (fun i => (i.zero, i.size, i.bytes)) = some (some (.agg (Array.replicate 17 (.int .i64 0))), 17, 136) := by kernel_rfl
theorem size38 (f : Nat → Int) : (Try.prog.info? 38).map (·.size) = some (tabn 17 f).length := by rw [tabn_length]; kernel_rfl
/-- How many of each length, in a table. -/
def CN (l : List Int) : List Int := tabn 17 (fun j => (cn l j : Int))
theorem CN_step {l : List Int} {m : Nat} {x : Int} (h : l[m]? = some x) (h0 : 0 < x) : (CN (l.take m)).set x.toNat ((cn (l.take m) x.toNat : Int) + 1) = CN (l.take (m + 1)) := by
  unfold CN
  rw [tabn_set]
  refine tabn_congr (fun j hj => ?_)
  rw [cn_succ h j]
  by_cases e : j = x.toNat
  · rw [if_pos e, if_pos ⟨by omega, by omega⟩, e]; omega
  · rw [if_neg e, if_neg (fun h' => e (by omega))]; rfl
theorem CN_skip {l : List Int} {m : Nat} {x : Int} (h : l[m]? = some x) (h0 : ¬ 0 < x) : CN (l.take m) = CN (l.take (m + 1)) := by
  unfold CN
  refine tabn_congr (fun j hj => ?_)
  rw [cn_succ h j, if_neg (fun h' => by omega)]
  rfl
theorem rd_at {l : List Int} {L : Int} {m : Nat} (hL : L = m) (hm : m < l.length) : l[m]? = some (rd l L) := by
  subst hL
  unfold rd
  rw [Int.toNat_natCast, List.getD_eq_getElem?_getD, List.getElem?_eq_getElem hm]; rfl
theorem rd_mem {l : List Int} {L : Int} {m : Nat} (hL : L = m) (hm : m < l.length) : rd l L ∈ l := List.mem_of_getElem? (rd_at hL hm)
set_option maxHeartbeats 4000000 in
set_option maxRecDepth 100000 in
theorem counts_calls (A0 : Option Addr) (c0 : Nat) (l : List Int) (w : World) (hr : Kd.C (Kd.int .i64) w A0 l.length l) (hc : l.length ≤ c0) (hx : ∀ x ∈ l, 0 ≤ x ∧ x ≤ 16) (hn : l.length ≤ 1024) :
    Calls Try.prog 15 #[.slice A0 l.length c0] w fun e w' => e = .returned (.agg (ints .i64 (CN l))) ∧ Below w.heap.size w w' := by
  have HR := Aside0.mk hr
  have HX := Aside0.mk hx
  have HN := Aside0.mk hn
  clear hr hc hx hn
  go_enter Try.func15, Try.ntmps15
  go_wp2_with (first
    | ((with_reducible refine gate_dst (N := 2) rfl ?_); refine alloc_blk rfl rfl info38 .i64 _ zero38 ?_; intro g2 w1 G2 K2 B1)
    | ((with_reducible refine gate_dst (N := 3) rfl ?_); refine alloc_blk rfl rfl info38 .i64 _ zero38 ?_; intro g3 w2 G3 K3 B2))
  have NE := Aside0.mk (show g2 ≠ g3 from Nat.ne_of_lt (Nat.lt_of_lt_of_le K2.out.lt G3.out))
  have G3' := Aside0.mk (Nat.le_trans B1.out.size G3.out)
  have B3 := Aside0.mk (below_step B1.out B2.out)
  have K2' := Aside0.mk (K2.out.below B2.out)
  clear K2 B1 B2 G3
  go_loopg [8] l.length (fun q v8 w' => ∃ (L : Int) (m : Nat), v8 = .int .i64 L ∧ Aside0 (L = (m : Int) ∧ m + q = l.length) ∧ Aside0 (Blk w' g2 .i64 38 (List.replicate 17 0)) ∧ Aside0 (Blk w' g3 .i64 38 (CN (l.take m))) ∧ Aside0 (Below w.heap.size w w'))
  case atStart => exact ⟨0, 0, rfl, ⟨rfl, by omega⟩, K2', ⟨by have := K3.out; rw [tabn_zero] at this; exact this⟩, B3⟩
  case round =>
    clear K2' K3 B3
    obtain ⟨L, m, rfl, HA, K2, K3, B3⟩ := hrel
    cases gk with
    | zero =>
      have t1 : decide (L < (l.length : Int)) = false := decide_eq_false (by have := HA.out; omega)
      have E := Aside0.mk (show l.take m = l from List.take_of_length_le (by have := HA.out; omega))
      rw [E.out] at K3
      go_wp2_with (first
        | ((with_reducible refine gate_dst (N := 20) rfl ?_); refine load_blk rfl 38 (.tmp 3) rfl g3 rfl .i64 (CN l) K3.out _ Try.underlying38 rfl (size38 _) ?_)
        | ((with_reducible refine gate_store (t := 38) (p := 2) rfl ?_); refine store_blk rfl 38 (.tmp 2) (.tmp 20) rfl g2 .i64 _ (CN l) rfl rfl K2.out (size38 _) (by simp [CN, tabn_length]) ?_; intro w4 K4 E4))
      refine bodyPost_ret (v := .agg (ints .i64 (CN l))) (blk_ret rfl _ _ g2 .i64 (CN l) _ rfl K4.out Try.underlying38 rfl (size38 _)) rfl ?_
      exact ⟨rfl, below_grown B3.out E4.out G2.out B3.out.size⟩
    | succ q =>
      have t1 : decide (L < (l.length : Int)) = true := decide_eq_true (by have := HA.out; omega)
      have p1 : (0 ≤ L) = True := eq_true (by have := HA.out; omega)
      have q1 : (L < (l.length : Int)) = True := eq_true (by have := HA.out; omega)
      have hat := rd_at (l := l) HA.out.1 (by have := HA.out; omega)
      have hmem := HX.out _ (rd_mem (l := l) HA.out.1 (by have := HA.out; omega))
      obtain ⟨ad, e_, hc⟩ := Kd.at_int HR.out L (by have := HA.out; omega) (by have := HA.out; omega)
      subst e_
      have hc1 := (B3.out.cell (World.block_lt_of_cell? w _ hc)).trans hc
      clear hc
      obtain ⟨x, hx⟩ : ∃ x, rd l L = x := ⟨_, rfl⟩
      rw [hx] at hat hmem hc1
      clear hx
      by_cases h0 : 0 < x
      · have t2 : decide (0 < x) = true := decide_eq_true h0
        have p2 : (0 ≤ x) = True := eq_true (by omega)
        have q2 : (x < 17) = True := eq_true (by omega)
        have hlen : (CN (l.take m)).length = 17 := tabn_length _ _
        have hcc := K3.out.cell x.toNat (by omega)
        have hval : (CN (l.take m)).getD x.toNat 0 = (cn (l.take m) x.toNat : Int) := tabn_getD (by omega)
        rw [hval] at hcc
        have hff := K3.out.free x.toNat
        have hle : cn (l.take m) x.toNat ≤ 1024 := by
          have h1 := cn_take_le l m x.toNat
          have h2 := cn_le l x.toNat
          have := HN.out
          omega
        have ew : wrap64 ((cn (l.take m) x.toNat : Int) + 1) = (cn (l.take m) x.toNat : Int) + 1 := Com.w64 (by omega) (by omega)
        have HS := Aside0.mk (And.intro hat h0)
        have NX := Aside0.mk (show g3 ≠ g2 from NE.out.symm)
        have EW := Aside0.mk ew
        clear hat hmem h0 hlen hval hle ew
        go_wp2
        go_roundg q
        case measure => omega
        case rel =>
          refine ⟨wrap64 (L + 1), m + 1, rfl, ⟨?_, by have := HA.out; omega⟩, ⟨K2.out.far NE.out _⟩, ⟨?_⟩, ⟨below_set B3.out G3'.out⟩⟩
          · have := HA.out; have := HN.out; rw [Com.w64 (by omega) (by omega)]; omega
          · rw [EW.out, ← CN_step HS.out.1 HS.out.2]
            exact K3.out.put _ _
      · have t2 : decide (0 < x) = false := decide_eq_false h0
        have HS := Aside0.mk (And.intro hat h0)
        clear hat hmem h0
        go_wp2
        go_roundg q
        case measure => omega
        case rel =>
          refine ⟨wrap64 (L + 1), m + 1, rfl, ⟨?_, by have := HA.out; omega⟩, K2, ⟨?_⟩, B3⟩
          · have := HA.out; have := HN.out; rw [Com.w64 (by omega) (by omega)]; omega
          · rw [← CN_skip HS.out.1 (Int.not_lt.2 HS.out.2)]
            exact K3.out
end Go.Proofs.Ytbeoacjooaioaaa.Hd
