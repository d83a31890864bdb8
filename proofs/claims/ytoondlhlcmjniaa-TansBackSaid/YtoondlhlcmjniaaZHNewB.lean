/- bitr.New, walked by hand: the bytes are new memory; the reader is told by the world in which they lie. -/
import Derived.Test.YtoondlhlcmjniaaZHw
import Derived.Test.YtoondlhlcmjniaaZCom
import Derived.Test.YtoondlhlcmjniaaZPx1
set_option linter.unusedVariables false
set_option linter.unusedSimpArgs false
set_option linter.unusedSectionVars false
namespace Go.Proofs.Ytoondlhlcmjniaa.Hd
open Go.RowKit Go.Proofs.YtoondlhlcmjniaaW.PrintWords Go.Proofs.YtoondlhlcmjniaaW.PrintLast Go.Proofs.YtoondlhlcmjniaaW.PrintMore Go.Proofs.Ytoondlhlcmjniaa.Hw Go.Proofs.Ytoondlhlcmjniaa.P
attribute [local go_sem] max2_int min2_int max_two min_two max_three min_three max_four min_four

theorem bytes_C {W : World} {b : Nat} {s : ByteArray} (h : Byt W b s) (hs : s.size ≤ maxLen) : Kd.C (Kd.int .u8) W (some ⟨b, 0, none⟩) s.size (bytesOf s) := by
  refine Kd.C_of_reads (d := 0) (h1 := fun _ => rfl) ⟨bytesOf_length s, by simp [maxLen] at hs; omega, fun _ => ⟨_, rfl, fun j hj => ?_⟩⟩
  rw [add_plain, h.cell j hj]
  have h' : j < s.data.toList.length := by rw [data_length]; exact hj
  rw [← rd_bytesOf]
  simp [rd]

def bitr_New.f (a0 : ByteArray) : Option (List Int × Int) := if a0.size ≤ 17592186044416 then some (bytesOf a0, 0) else none
set_option maxHeartbeats 2000000 in
set_option maxRecDepth 100000 in
theorem bitr_New.calls (a0 : ByteArray) (r1 : List Int) (r2 : Int) (w0 w : World) (hB : Below w0.heap.size w0 w) (h : bitr_New.f a0 = some (r1, r2)) :
    Calls Try.prog 24 #[.string a0] w fun e w' => ∃ (g_ : Nat) (wb : World), e = .returned (.pointer (some ⟨g_, 0, none⟩)) ∧ IsS86 wb w' g_ r1 r2 ∧ Below wb.heap.size wb w' ∧ Below w.heap.size w w' ∧ Below w0.heap.size w0 wb := by
  unfold bitr_New.f at h
  by_cases hs : a0.size ≤ 17592186044416
  case neg => rw [if_neg hs] at h; exact absurd h (by simp)
  rw [if_pos hs] at h
  simp only [Option.some.injEq, Prod.mk.injEq] at h
  obtain ⟨rfl, rfl⟩ := h
  have HS := Aside0.mk hs
  have HB := Aside0.mk hB
  clear hs hB
  go_enter Try.func24, Try.ntmps24
  go_wp2_with (first
    | ((with_reducible refine gate_dst (N := 5) rfl ?_); refine conv_event rfl rfl a0 rfl Try.underlying9 Try.underlying84 Try.underlying5 ?_; intro w2 c hcc hby hB2; have Y2 := Aside0.mk hby; have B2 := Aside0.mk hB2; have L2 := Aside0.mk hcc; have q1 : ((a0.size : Int) ≤ (c : Int)) = True := eq_true (by omega); have q2 : (0 ≤ (a0.size : Int)) = True := eq_true (by omega); clear hby hB2 hcc)
    | ((with_reducible refine gate_dst (N := 13) rfl ?_); refine box_event ?hg (N := 13) ?hd (cs := #[.slice (some ⟨w.heap.size, 0, none⟩) a0.size a0.size, .int .i64 0]) (t := 86) ?hr ?_; (case hd => rfl); (case hg => rfl); (case hr => first | (go_simp; done) | (go_simp; rfl)); intro g3 hg3 w3 hx3 hB3; have X3 := Aside0.mk hx3; have B3 := Aside0.mk hB3; have G3 := Aside0.mk hg3; clear hx3 hB3 hg3))
  go_ret
  have hl := bytesOf_length a0
  refine ⟨g3, w2, rfl, ⟨some ⟨w.heap.size, 0, none⟩, a0.size, ?_, ?_, ?_⟩, B3.out, below_then B2.out (below_size B2.out) B3.out, below_then HB.out (below_size HB.out) B2.out⟩
  · rw [hl]; exact X3.out
  · rw [G3.out]; exact Nat.le_refl _
  · rw [hl]
    exact bytes_C Y2.out (by simp [maxLen]; have := HS.out; omega)
end Go.Proofs.Ytoondlhlcmjniaa.Hd
