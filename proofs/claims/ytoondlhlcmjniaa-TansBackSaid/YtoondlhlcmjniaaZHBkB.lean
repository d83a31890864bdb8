/- slices.Backward over ints: the iterator's contract (turned from the kit's worked text on slices.All). -/
import Derived.RangeFuncNested
import Derived.RangeFuncBox
import Derived.RangeFuncCalls
import Derived.RangeFuncLeaves
import Derived.Shelf.Abstract
import Derived.WalkKit
import Derived.OwnWalkIn
import Derived.TacticsInMore
import Derived.LoopNIn
import Derived.LoopIn
import Derived.Test.YtoondlhlcmjniaaZPx0
import Derived.Test.YtoondlhlcmjniaaZHw
import Derived.Test.YtoondlhlcmjniaaZCom
import Derived.Test.YtoondlhlcmjniaaZCn
set_option linter.unusedVariables false
set_option linter.unusedSimpArgs false
set_option linter.unusedSectionVars false
namespace Go.Proofs.Ytoondlhlcmjniaa.Bk
open Go Go.RowKit Go.Shelf Go.Proofs.YtoondlhlcmjniaaW.PrintWords Go.Proofs.YtoondlhlcmjniaaW.PrintLast Go.Proofs.YtoondlhlcmjniaaW.PrintMore Go.Proofs.Ytoondlhlcmjniaa.Hw Go.Proofs.Ytoondlhlcmjniaa.Com Go.Proofs.Ytoondlhlcmjniaa.Cn Go.Proofs.Ytoondlhlcmjniaa.P
attribute [local go_sem] Oper.semAt_some
/-- What has come when k rounds are over. -/
def upto (zs : List Int) (k : Nat) : List Nat := (List.range k).map (fun j => zs.length - 1 - j)
theorem upto_succ (zs : List Int) (k : Nat) : upto zs (k + 1) = upto zs k ++ [zs.length - 1 - k] := by simp [upto, List.range_succ]
/-- What comes at a place; behind the end the first one. -/
def vl (zs : List Int) (j : Nat) : Int := zs[j]?.getD (zs.headD 0)
theorem vl_mem {zs : List Int} (h : 0 < zs.length) (j : Nat) : vl zs j ∈ zs := by
  unfold vl
  cases e : zs[j]? with
  | some v => exact List.mem_of_getElem? e
  | none =>
    cases zs with
    | nil => simp at h
    | cons a l => simp
theorem upto_length (zs : List Int) (k : Nat) : (upto zs k).length = k := by simp [upto]
/-- What a round must keep: what lay below n₀, and the iterator's own variable. -/
def KpB (n₀ Bs : Nat) (W W' : World) : Prop := Below n₀ W W' ∧ ∀ cs t, W.heap[Bs]? = some (.cells cs t (0, 0)) → W'.heap[Bs]? = some (.cells cs t (0, 0))
theorem KpB.refl (n₀ Bs : Nat) (W : World) : KpB n₀ Bs W W := ⟨Below.refl _ _, fun _ _ h => h⟩
theorem KpB.trans {n₀ Bs : Nat} {A B C : World} (h : KpB n₀ Bs A B) (h' : KpB n₀ Bs B C) : KpB n₀ Bs A C := ⟨h.1.trans h'.1, fun cs t hz => h'.2 cs t (h.2 cs t hz)⟩
set_option maxRecDepth 100000 in
set_option maxHeartbeats 2000000 in
theorem bk1_in (F : Fence) (n : Nat) (h7 : F.fn 47) (hro : F.round = none) (hn : 1 ≤ n) (l Bs n₀ cap : Nat) (A0 : Option Addr) (zs : List Int) (hreach : zs.length * 8 ≤ 140737488351232) (J Jx : List Nat → World → Prop)
    (hY : ∀ (pre : List Nat) (x : Nat) W, J pre W → pre.length < zs.length → YieldAt F (n - 1) Try.prog l #[.int .i64 (x : Int), .int .i64 (vl zs x)] W fun e W' =>
      (e = .returned (.bool true) ∧ J (pre ++ [x]) W' ∧ KpB n₀ Bs W W') ∨ (e = .returned (.bool false) ∧ Jx (pre ++ [x]) W'))
    (W : World) (hBs : W.heap[Bs]? = some (.cells #[.slice A0 zs.length cap] 22 (0, 0))) (hc : ∀ j, j < zs.length → ∃ ad : Addr, A0 = some ad ∧ (ad.add j).block < n₀ ∧ W.cell? (ad.add j) = some (.int .i64 (vl zs j))) (h0 : J [] W) :
    CallsIn F n Try.prog 47 #[.func (.yield l) #[] #[], .pointer (some ⟨Bs, 0, none⟩)] W fun e W' => (∃ v, e = .returned v) ∧
      ((∃ ys, ys = upto zs zs.length ∧ J ys W') ∨ (∃ pre, (∃ k, k ≤ zs.length ∧ pre = upto zs k) ∧ Jx pre W')) := by
  obtain ⟨len, hlen⟩ : ∃ len, zs.length = len := ⟨_, rfl⟩
  have e0 : wrap64 ((len : Int) - 1) = (len : Int) - 1 := by rw [w64 (by omega) (by omega)]
  refine callsIn_of_wp Try.func47 rfl h7 ?_ hro
  rw [hlen] at hBs hc hY
  simp only [Try.ntmps47, List.size_toArray, List.length_cons, List.length_nil, Nat.reduceAdd, Nat.reduceSub, Array.replicate_succ, Array.replicate_zero, List.push_toArray, List.append_toArray, List.nil_append, List.cons_append]
  have hBs0 : W.cell? ⟨Bs, 0, none⟩ = some (.slice A0 len cap) := (blk_cell hBs 0).trans rfl
  gi_wp2
  gi_loopw [3] (fun i wr => ∃ (L : Int) (k : Nat), k ≤ len ∧ i = .int .i64 L ∧ L = (len : Int) - 1 - k ∧ J (upto zs k) wr ∧ KpB n₀ Bs W wr)
    (fun i _ => (intOf i + 1).toNat)
  case atStart => exact ⟨_, 0, Nat.zero_le _, rfl, by first | rfl | (rw [e0]; omega) | omega, h0, KpB.refl _ _ _⟩
  case round =>
    obtain ⟨L, k, hk, rfl, hL, hJs, hnx⟩ := hrel
    have hBs' : wr.cell? ⟨Bs, 0, none⟩ = some (.slice A0 len cap) := (blk_cell (hnx.2 _ _ hBs) 0).trans rfl
    by_cases hlt : k < len
    · obtain ⟨j, hj⟩ : ∃ j, len - 1 - k = j := ⟨_, rfl⟩
      obtain rfl : L = (j : Int) := by omega
      have hjl : j < len := by omega
      obtain ⟨fn, tmps, assign, body, hy, hR⟩ := hY _ j wr hJs (by rw [upto_length]; exact hlt)
      obtain ⟨ad, rfl, hab, hac⟩ := hc j hjl
      have hcx' : wr.cell? (ad.add j) = some (.int .i64 (vl zs j)) := (hnx.1.cell (p := ad.add j) hab).trans hac
      have e1 : wrap64 ((j : Int) - 1) = (j : Int) - 1 := by rw [w64 (by omega) (by omega)]
      have HL := Aside0.mk (And.intro hL (And.intro hj (And.intro hjl hlt)))
      obtain ⟨z, hz⟩ : ∃ z, vl zs j = z := ⟨_, rfl⟩
      have HZ := Aside0.mk hz
      rw [hz] at hcx' hy
      have t1 : decide ((0 : Int) ≤ (j : Int)) = true := decide_eq_true (by omega)
      have p1 : ((j : Int) < (len : Int)) = True := eq_true (by omega)
      have p2 : (j < len) = True := eq_true hjl
      clear hL hj hjl hlt hz hc hk hab hac hBs hBs0
      gi_wp2
      refine hR.mono ?_
      rintro e W3 (⟨rfl, hJ3, hk3⟩ | ⟨rfl, hJx3⟩)
      · gi_wp2
        go_roundw
        case rel => exact ⟨_, k + 1, by have := HL.out; omega, rfl, by have := HL.out; first | omega | (rw [e1]; omega), by rw [upto_succ, hlen, HL.out.2.1]; exact hJ3, hnx.trans hk3⟩
        case measure => simp [intOf]; omega
      · gi_wp2
        refine bodyPost_ret (results_none rfl _ _ _) rfl ?_
        exact ⟨⟨_, rfl⟩, .inr ⟨_, ⟨k + 1, by have := HL.out; omega, by rw [upto_succ, hlen, HL.out.2.1]⟩, hJx3⟩⟩
    · obtain rfl : k = len := by omega
      obtain rfl : L = -1 := by omega
      gi_wp2
      go_end0
      exact ⟨⟨_, rfl⟩, .inl ⟨_, by rw [hlen], hJs⟩⟩
set_option maxHeartbeats 1000000 in
theorem backward_ok (A0 : Option Addr) (len cap : Nat) (w : World) :
    Calls Try.prog 35 #[.slice A0 len cap] w fun e w' => e = .returned (.func (.func 47) #[] #[.pointer (some ⟨w.heap.size, 0, none⟩)]) ∧ w' = w.alloc (.cells #[.slice A0 len cap] 22) := by
  go_enter Try.func35, Try.ntmps35
  go_wp2
  go_ret
  exact ⟨rfl, rfl⟩
theorem bk_stops (F : Fence) (n : Nat) (h7 : F.fn 47) (hro : F.round = none) (hn : 1 ≤ n) (Bs n₀ cap : Nat) (A0 : Option Addr) (zs : List Int) (hreach : zs.length * 8 ≤ 140737488351232) (w : World) (hBs : Bs < w.heap.size) (hn₀ : n₀ ≤ w.heap.size)
    (hc : w.heap[Bs]? = some (.cells #[.slice A0 zs.length cap] 22 (0, 0))) (hI : ∀ j, j < zs.length → ∃ ad : Addr, A0 = some ad ∧ (ad.add j).block < n₀ ∧ w.cell? (ad.add j) = some (.int .i64 (vl zs j))) :
    SeqStopsK F n Try.prog 47 #[.pointer (some ⟨Bs, 0, none⟩)] (fun x : Nat => #[Value.int .i64 (x : Int), Value.int .i64 (vl zs x)]) (KpB n₀ Bs) (fun ys => ys = upto zs zs.length)
      (fun pre => ∃ k, k ≤ zs.length ∧ pre = upto zs k) zs.length w := fun l J Jx W hW _ _ hY h0 =>
  bk1_in F n h7 hro hn l Bs n₀ cap A0 zs hreach J Jx hY W (blk_below hc hW) (fun j hj => by
    obtain ⟨ad, h1, h2, h3⟩ := hI j hj
    exact ⟨ad, h1, h2, ((hW.mono hn₀).cell (p := ad.add j) h2).trans h3⟩) h0
end Go.Proofs.Ytoondlhlcmjniaa.Bk
