/- slices.Backward over groups: the iterator's contract. -/
import Derived.RangeFuncNested
import Derived.RangeFuncBox
import Derived.RangeFuncCalls
import Derived.RangeFuncLeaves
import Derived.Shelf.Abstract
import Derived.WalkKit
import Derived.OwnWalkIn
import Derived.TacticsInMore
import Derived.LoopNIn
import Derived.LoopIn
import Derived.Test.YtoondlhlcmjniaaZHBkB
import Derived.Test.YtoondlhlcmjniaaZHTnC
import Derived.Test.YtoondlhlcmjniaaZHw
import Derived.Test.YtoondlhlcmjniaaZCom
import Derived.Test.YtoondlhlcmjniaaZCn
set_option linter.unusedVariables false
set_option linter.unusedSimpArgs false
set_option linter.unusedSectionVars false
namespace Go.Proofs.Ytoondlhlcmjniaa.Bg
open Go Go.RowKit Go.Shelf Go.Proofs.YtoondlhlcmjniaaW.PrintWords Go.Proofs.YtoondlhlcmjniaaW.PrintLast Go.Proofs.YtoondlhlcmjniaaW.PrintMore Go.Proofs.Ytoondlhlcmjniaa.Hw Go.Proofs.Ytoondlhlcmjniaa.Com Go.Proofs.Ytoondlhlcmjniaa.Cn Go.Proofs.Ytoondlhlcmjniaa.P Go.Proofs.Ytoondlhlcmjniaa.Bk Go.Proofs.Ytoondlhlcmjniaa.Hd
attribute [local go_sem] Oper.semAt_some
theorem range2 {W : World} {g o : Nat} {u v : Value} (h0 : W.cell? ⟨g, o, none⟩ = some u) (h1 : W.cell? ⟨g, o + 1, none⟩ = some v) : W.rangeAt g o [u, v] := by
  intro j x hj
  rcases j with _ | _ | j
  · cases hj; exact h0
  · cases hj; exact h1
  · cases hj
/-- What has come when k rounds are over. -/
def uptoG (zs : List (Int × Int)) (k : Nat) : List Nat := (List.range k).map (fun j => zs.length - 1 - j)
theorem uptoG_succ (zs : List (Int × Int)) (k : Nat) : uptoG zs (k + 1) = uptoG zs k ++ [zs.length - 1 - k] := by simp [uptoG, List.range_succ]
/-- What comes at a place; behind the end the first one. -/
def vlG (zs : List (Int × Int)) (j : Nat) : (Int × Int) := zs[j]?.getD (zs.headD (0, 0))
theorem vlG_mem {zs : List (Int × Int)} (h : 0 < zs.length) (j : Nat) : vlG zs j ∈ zs := by
  unfold vlG
  cases e : zs[j]? with
  | some v => exact List.mem_of_getElem? e
  | none =>
    cases zs with
    | nil => simp at h
    | cons a l => simp
theorem uptoG_length (zs : List (Int × Int)) (k : Nat) : (uptoG zs k).length = k := by simp [uptoG]
set_option maxRecDepth 100000 in
set_option maxHeartbeats 2000000 in
theorem bk1_in (F : Fence) (n : Nat) (h7 : F.fn 49) (hro : F.round = none) (hn : 1 ≤ n) (l Bs n₀ cap : Nat) (A0 : Option Addr) (zs : List (Int × Int)) (hreach : zs.length * 8 ≤ 140737488351232) (J Jx : List Nat → World → Prop)
    (hY : ∀ (pre : List Nat) (x : Nat) W, J pre W → pre.length < zs.length → YieldAt F (n - 1) Try.prog l #[.int .i64 (x : Int), .agg #[.int .u64 (vlG zs x).1, .int .i64 (vlG zs x).2]] W fun e W' =>
      (e = .returned (.bool true) ∧ J (pre ++ [x]) W' ∧ KpB n₀ Bs W W') ∨ (e = .returned (.bool false) ∧ Jx (pre ++ [x]) W'))
    (W : World) (hBs : W.heap[Bs]? = some (.cells #[.slice A0 zs.length cap] 69 (0, 0))) (hc : ∀ j, j < zs.length → ∃ b, A0 = some ⟨b, 0, none⟩ ∧ b < n₀ ∧ W.cell? ⟨b, j * 2, none⟩ = some (.int .u64 (vlG zs j).1) ∧ W.cell? ⟨b, j * 2 + 1, none⟩ = some (.int .i64 (vlG zs j).2)) (h0 : J [] W) :
    CallsIn F n Try.prog 49 #[.func (.yield l) #[] #[], .pointer (some ⟨Bs, 0, none⟩)] W fun e W' => (∃ v, e = .returned v) ∧
      ((∃ ys, ys = uptoG zs zs.length ∧ J ys W') ∨ (∃ pre, (∃ k, k ≤ zs.length ∧ pre = uptoG zs k) ∧ Jx pre W')) := by
  obtain ⟨len, hlen⟩ : ∃ len, zs.length = len := ⟨_, rfl⟩
  have e0 : wrap64 ((len : Int) - 1) = (len : Int) - 1 := by rw [w64 (by omega) (by omega)]
  refine callsIn_of_wp Try.func49 rfl h7 ?_ hro
  rw [hlen] at hBs hc hY
  simp only [Try.ntmps49, List.size_toArray, List.length_cons, List.length_nil, Nat.reduceAdd, Nat.reduceSub, Array.replicate_succ, Array.replicate_zero, List.push_toArray, List.append_toArray, List.nil_append, List.cons_append]
  have hBs0 : W.cell? ⟨Bs, 0, none⟩ = some (.slice A0 len cap) := (blk_cell hBs 0).trans rfl
  gi_wp2
  gi_loopw [3] (fun i wr => ∃ (L : Int) (k : Nat), k ≤ len ∧ i = .int .i64 L ∧ L = (len : Int) - 1 - k ∧ J (uptoG zs k) wr ∧ KpB n₀ Bs W wr)
    (fun i _ => (intOf i + 1).toNat)
  case atStart => exact ⟨_, 0, Nat.zero_le _, rfl, by first | rfl | (rw [e0]; omega) | omega, h0, KpB.refl _ _ _⟩
  case round =>
    obtain ⟨L, k, hk, rfl, hL, hJs, hnx⟩ := hrel
    have hBs' : wr.cell? ⟨Bs, 0, none⟩ = some (.slice A0 len cap) := (blk_cell (hnx.2 _ _ hBs) 0).trans rfl
    by_cases hlt : k < len
    · obtain ⟨j, hj⟩ : ∃ j, len - 1 - k = j := ⟨_, rfl⟩
      obtain rfl : L = (j : Int) := by omega
      have hjl : j < len := by omega
      obtain ⟨fn, tmps, assign, body, hy, hR⟩ := hY _ j wr hJs (by rw [uptoG_length]; exact hlt)
      obtain ⟨b, rfl, hab, hac, had⟩ := hc j hjl
      have hc1 : wr.cell? ⟨b, j * 2, none⟩ = some (.int .u64 (vlG zs j).1) := (hnx.1.cell (p := ⟨b, j * 2, none⟩) hab).trans hac
      have hc2 : wr.cell? ⟨b, j * 2 + 1, none⟩ = some (.int .i64 (vlG zs j).2) := (hnx.1.cell (p := ⟨b, j * 2 + 1, none⟩) hab).trans had
      have e1 : wrap64 ((j : Int) - 1) = (j : Int) - 1 := by rw [w64 (by omega) (by omega)]
      have HL := Aside0.mk (And.intro hL (And.intro hj (And.intro hjl hlt)))
      obtain ⟨z, hz⟩ : ∃ z, vlG zs j = z := ⟨_, rfl⟩
      have HZ := Aside0.mk hz
      rw [hz] at hc1 hc2 hy
      have t1 : decide ((0 : Int) ≤ (j : Int)) = true := decide_eq_true (by omega)
      have p1 : ((j : Int) < (len : Int)) = True := eq_true (by omega)
      have p2 : (j < len) = True := eq_true hjl
      clear hL hj hjl hlt hz hc hk hab hac had hBs hBs0
      gi_wp2
      refine hR.mono ?_
      rintro e W3 (⟨rfl, hJ3, hk3⟩ | ⟨rfl, hJx3⟩)
      · gi_wp2
        go_roundw
        case rel => exact ⟨_, k + 1, by have := HL.out; omega, rfl, by have := HL.out; first | omega | (rw [e1]; omega), by rw [uptoG_succ, hlen, HL.out.2.1]; exact hJ3, hnx.trans hk3⟩
        case measure => simp [intOf]; omega
      · gi_wp2
        refine bodyPost_ret (results_none rfl _ _ _) rfl ?_
        exact ⟨⟨_, rfl⟩, .inr ⟨_, ⟨k + 1, by have := HL.out; omega, by rw [uptoG_succ, hlen, HL.out.2.1]⟩, hJx3⟩⟩
    · obtain rfl : k = len := by omega
      obtain rfl : L = -1 := by omega
      gi_wp2
      go_end0
      exact ⟨⟨_, rfl⟩, .inl ⟨_, by rw [hlen], hJs⟩⟩
set_option maxHeartbeats 1000000 in
theorem backward_ok (A0 : Option Addr) (len cap : Nat) (w : World) :
    Calls Try.prog 39 #[.slice A0 len cap] w fun e w' => e = .returned (.func (.func 49) #[] #[.pointer (some ⟨w.heap.size, 0, none⟩)]) ∧ w' = w.alloc (.cells #[.slice A0 len cap] 69) := by
  go_enter Try.func39, Try.ntmps39
  go_wp2
  go_ret
  exact ⟨rfl, rfl⟩
theorem bk_stops (F : Fence) (n : Nat) (h7 : F.fn 49) (hro : F.round = none) (hn : 1 ≤ n) (Bs n₀ cap : Nat) (A0 : Option Addr) (zs : List (Int × Int)) (hreach : zs.length * 8 ≤ 140737488351232) (w : World) (hBs : Bs < w.heap.size) (hn₀ : n₀ ≤ w.heap.size)
    (hc : w.heap[Bs]? = some (.cells #[.slice A0 zs.length cap] 69 (0, 0))) (hI : ∀ j, j < zs.length → ∃ b, A0 = some ⟨b, 0, none⟩ ∧ b < n₀ ∧ w.cell? ⟨b, j * 2, none⟩ = some (.int .u64 (vlG zs j).1) ∧ w.cell? ⟨b, j * 2 + 1, none⟩ = some (.int .i64 (vlG zs j).2)) :
    SeqStopsK F n Try.prog 49 #[.pointer (some ⟨Bs, 0, none⟩)] (fun x : Nat => #[Value.int .i64 (x : Int), Value.agg #[Value.int .u64 (vlG zs x).1, Value.int .i64 (vlG zs x).2]]) (KpB n₀ Bs) (fun ys => ys = uptoG zs zs.length)
      (fun pre => ∃ k, k ≤ zs.length ∧ pre = uptoG zs k) zs.length w := fun l J Jx W hW _ _ hY h0 =>
  bk1_in F n h7 hro hn l Bs n₀ cap A0 zs hreach J Jx hY W (blk_below hc hW) (fun j hj => by
    obtain ⟨b, h1, h2, h3, h4⟩ := hI j hj
    exact ⟨b, h1, h2, ((hW.mono hn₀).cell (p := ⟨b, j * 2, none⟩) h2).trans h3, ((hW.mono hn₀).cell (p := ⟨b, j * 2 + 1, none⟩) h2).trans h4⟩) h0
end Go.Proofs.Ytoondlhlcmjniaa.Bg
