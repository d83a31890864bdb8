/- ranger's Decoder, walked by hand: next and New. -/
import Derived.Test.YtfijcedckpkpfaaHRg5
set_option linter.unusedVariables false
set_option linter.unusedSimpArgs false
set_option linter.unusedSectionVars false
namespace Go.Proofs.Ytfijcedckpkpfaa.Hd
open Go.RowKit Go.Proofs.YtfijcedckpkpfaaW.PrintWords Go.Proofs.YtfijcedckpkpfaaW.PrintLast Go.Proofs.YtfijcedckpkpfaaW.PrintMore Go.Proofs.Ytfijcedckpkpfaa.Hw Go.Proofs.Ytfijcedckpkpfaa.Com Go.Proofs.Ytfijcedckpkpfaa.Rn Go.Proofs.Ytfijcedckpkpfaa.P
attribute [local go_sem] max2_int min2_int max_two min_two max_three min_three max_four min_four
/-- The word, one more byte in it; and what is behind. -/
def nxX (x : Nat) (s : ByteArray) : Nat := x % 16777216 * 256 + (if s.size = 0 then 0 else (bt s 0).toNat)
def nxS (s : ByteArray) : ByteArray := if s.size = 0 then s else s.extract 1 s.size
theorem bt0_lt (s : ByteArray) : 0 ≤ bt s 0 ∧ bt s 0 < 256 := by
  have := bt_range s 0
  omega
theorem bt0_at (s : ByteArray) (h : 0 < s.size) : ((s[0]'h).toNat : Int) = bt s 0 := by
  unfold bt
  rw [dif_pos (by exact h)]
  rfl
theorem nxX_lt (x : Nat) (s : ByteArray) : nxX x s < 4294967296 := by
  have := bt0_lt s
  unfold nxX
  split <;> omega
def DecS (W : World) (g : Nat) (a b x : Int) (s : ByteArray) : Prop := Sp W g 62 [.int .u64 x, .string s] a b
section
variable {W : World} {g : Nat} {a b x : Int} {s : ByteArray}
theorem DecS.cell2 (h : DecS W g a b x s) : W.cell? ⟨g, 2, none⟩ = some (.int .u64 x) := (blk_cell h 2).trans rfl
theorem DecS.cell3 (h : DecS W g a b x s) : W.cell? ⟨g, 3, none⟩ = some (.string s) := (blk_cell h 3).trans rfl
theorem DecS.set2 (h : DecS W g a b x s) (y : Int) : DecS (W.setCell ⟨g, 2, none⟩ (.int .u64 y)) g a b y s := blk_put h 2 _ (by simp)
theorem DecS.set3 (h : DecS W g a b x s) (y : ByteArray) : DecS (W.setCell ⟨g, 3, none⟩ (.string y)) g a b x y := blk_put h 3 _ (by simp)
end
theorem empty_of {s : ByteArray} (h : s.size = 0) : s = ⟨#[]⟩ := by
  cases s with
  | mk d =>
    have : d.size = 0 := h
    rw [Array.size_eq_zero_iff.1 this]
theorem TL1 {s : ByteArray} (h : ¬ s.size = 0) : s.toList.isEmpty = false := by
  rw [ByteArray.toList_eq]
  cases hl : s.data.toList with
  | nil =>
    have : s.data.size = 0 := by rw [← Array.length_toList, hl]; rfl
    exact absurd this h
  | cons _ _ => rfl
theorem or_byte (x c : Nat) (hx : x < 4294967296) (hc : c < 256) : Go.bits .or .u64 ((x % 16777216 * 256 : Nat) : Int) (c : Int) = ((x % 16777216 * 256 + c : Nat) : Int) := by
  rw [(bits_u64 (x % 16777216 * 256) c (by omega) (by omega)).2, or_join _ c 8 (by omega) (by omega)]
set_option maxHeartbeats 4000000 in
set_option maxRecDepth 100000 in
theorem next_calls (g a b x : Nat) (s : ByteArray) (w : World) (hS : DecS w g a b x s) (hx : x < 4294967296) :
    Calls Try.prog 24 #[.pointer (some ⟨g, 0, none⟩)] w fun e w' => e = .returned (.tuple #[]) ∧ DecS w' g a b (nxX x s) (nxS s) ∧ w.grownBy w' (some g) := by
  have S0 := Aside0.mk hS
  have hc2 := hS.cell2
  have hc3 := hS.cell3
  have hf2 := Sp.free hS 2
  have hf3 := Sp.free hS 3
  have EA := Aside0.mk (show IntKind.u64.wrap (Go.bits .and .u64 (x : Int) 16777215 * 256) = ((x % 16777216 * 256 : Nat) : Int) by
    rw [low24 x hx, wu64 (by omega) (by omega)]; omega)
  have HX := Aside0.mk hx
  by_cases h0 : s.size = 0
  · obtain rfl := empty_of h0
    have e1 : nxX x ⟨#[]⟩ = x % 16777216 * 256 := by unfold nxX; rw [if_pos h0]; rfl
    have e2 : nxS ⟨#[]⟩ = ⟨#[]⟩ := if_pos h0
    rw [e1, e2]
    clear hS hx e1 e2 h0
    go_enter Try.func24, Try.ntmps24
    go_wp2
    first | go_end0 | ((try simp only [Exit.inBlock, Exit.then]); refine bodyPost_ret (results_none rfl _ _ _) rfl ?_)
    rw [EA.out]
    exact ⟨rfl, S0.out.set2 _, grown_cell (grown_refl _ _) _ _⟩
  · have e1 : nxX x s = x % 16777216 * 256 + (bt s 0).toNat := by unfold nxX; rw [if_neg h0]
    have e2 : nxS s = s.extract 1 s.size := if_neg h0
    rw [e1, e2]
    have hb := bt0_lt s
    have t1 : s.toList.isEmpty = false := TL1 h0
    have p1 : (0 < (s.size : Int)) = True := eq_true (by omega)
    have p2 : (1 ≤ (s.size : Int)) = True := eq_true (by omega)
    have p3 : (0 < s.size) = True := eq_true (by omega)
    have p4 : (1 ≤ s.size) = True := eq_true (by omega)
    obtain ⟨c, hc⟩ : ∃ c : Nat, bt s 0 = c := ⟨(bt s 0).toNat, by omega⟩
    have EB := Aside0.mk (show Go.bits .or .u64 (IntKind.u64.wrap (Go.bits .and .u64 (x : Int) 16777215 * 256)) (IntKind.u64.wrap (bt s 0)) = ((x % 16777216 * 256 + (bt s 0).toNat : Nat) : Int) by
      rw [EA.out, hc, wu64 (by omega) (by omega), or_byte x c hx (by omega), Int.toNat_natCast])
    have EB2 := Aside0.mk (show Go.bits .or .u64 (IntKind.u64.wrap (Go.bits .and .u64 (x : Int) 16777215 * 256)) (bt s 0) = ((x % 16777216 * 256 + (bt s 0).toNat : Nat) : Int) by
      rw [EA.out, hc, or_byte x c hx (by omega), Int.toNat_natCast])
    have HZ := Aside0.mk (show 0 < s.size by omega)
    obtain ⟨V, hV⟩ : ∃ V : Int, ((x % 16777216 * 256 + (bt s 0).toNat : Nat) : Int) = V := ⟨_, rfl⟩
    have HV := Aside0.mk hV
    clear hV
    clear hS hx e1 e2 h0 hb hc
    go_enter Try.func24, Try.ntmps24
    go_wp2
    have D2 := Aside0.mk (S0.out.set2 (IntKind.u64.wrap (Go.bits .and .u64 (x : Int) 16777215 * 256)))
    obtain ⟨XA, hXA⟩ : ∃ z, IntKind.u64.wrap (Go.bits .and .u64 (x : Int) 16777215 * 256) = z := ⟨_, rfl⟩
    have G2 := Aside0.mk (grown_cell (grown_refl w (some g)) 2 (.int .u64 XA))
    rw [hXA] at D2 EB EB2
    rw [hXA]
    obtain ⟨w2, hw2⟩ : ∃ w2, w.setCell ⟨g, 2, none⟩ (.int .u64 XA) = w2 := ⟨_, rfl⟩
    rw [hw2] at D2 G2
    rw [hw2]
    clear hw2 hc2 hc3 hf2 hf3 hXA EA
    have hc2 := D2.out.cell2
    have hc3 := D2.out.cell3
    have hf2 := Sp.free D2.out 2
    have hf3 := Sp.free D2.out 3
    go_still_tail 13, (by kernel_rfl)
    change wpList _ _ _ _ _ w2.drew
    rw [bt0_at s HZ.out, EB.out, HV.out]
    go_wp2
    first | go_end0 | ((try simp only [Exit.inBlock, Exit.then]); refine bodyPost_ret (results_none rfl _ _ _) rfl ?_)
    rw [HV.out]
    exact ⟨rfl, (D2.out.set2 V).set3 (s.extract 1 s.size), grown_step (grown_cell (grown_cell G2.out 2 _) 3 _) (grown_below (below_drew (Below.refl _ _)) _)⟩
end Go.Proofs.Ytfijcedckpkpfaa.Hd
