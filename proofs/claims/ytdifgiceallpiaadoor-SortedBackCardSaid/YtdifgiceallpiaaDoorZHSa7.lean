/- suffix: quick, walked by hand. -/
import Derived.Test.YtdifgiceallpiaaDoorZHSa6
set_option linter.unusedVariables false
set_option linter.unusedSimpArgs false
set_option linter.unusedSectionVars false
namespace Go.Proofs.YtdifgiceallpiaaDoor.Sais
/-- A text's bytes, with an end that is less than all. -/
def txt (x : List Nat) (i : Nat) : Nat := if i < x.length then x.getD i 0 + 1 else 0
end Go.Proofs.YtdifgiceallpiaaDoor.Sais
namespace Go.Proofs.YtdifgiceallpiaaDoor.Hd
open Go Go.RowKit Go.Proofs.YtdifgiceallpiaaDoorW.PrintWords Go.Proofs.YtdifgiceallpiaaDoorW.PrintLast Go.Proofs.YtdifgiceallpiaaDoorW.PrintMore Go.Proofs.YtdifgiceallpiaaDoor.Hw Go.Proofs.YtdifgiceallpiaaDoor.Com Go.Proofs.YtdifgiceallpiaaDoor.Cn Go.Proofs.YtdifgiceallpiaaDoor.P Go.Proofs.YtdifgiceallpiaaDoor.Sais
attribute [local go_sem] max2_int min2_int max_two min_two max_three min_three max_four min_four
theorem num_txt (x : List Nat) (h : ∀ c ∈ x, c < 256) (hl : x.length ≤ 1073741824) : Num (x.length + 1) 257 (txt x) := by
  refine ⟨by omega, by simp [txt], fun i hi => ?_, fun i hi => ?_, by omega, by omega⟩
  · unfold txt; rw [if_pos (by omega)]; omega
  · unfold txt
    split
    · rename_i h1
      have := h (x.getD i 0) (by rw [List.getD_eq_getElem?_getD, List.getElem?_eq_getElem h1]; exact List.getElem_mem _)
      omega
    · omega
theorem cut1 {o : Oper} {a : Act} {W : World} {x : Operand} {A : Option Addr} {n c : Nat} (ho : o.op = .slice 29 x (some (.const (.int .i64 1))) none none) (hx : a.eval x = .slice A n c) (hn : 1 ≤ n) :
    (execOp a.eval o).run Tryd.prog W = .ok (.value (.slice (if c = 1 then A else A.map (·.add (1 * 1))) (n - 1) (c - 1))) W := by
  obtain ⟨i, hi, _, hs, _⟩ := info_parts info3
  have h := cut_from 29 3 .i64 Tryd.underlying29 hi 1 hs A n c 1 (by omega) (by omega) W
  have e : (1 : Int).toNat = 1 := rfl
  rw [e] at h
  have h2 : (Instr.sliceAt 29 (.slice A n c) (some (.int .i64 1)) none none).run Tryd.prog W = .ok (.slice (if c = 1 then A else A.map (·.add (1 * 1))) (n - 1) (c - 1)) W := by
    simp [Instr.sliceAt, h]
  have h3 : a.eval (.const (.int .i64 1)) = .int .i64 1 := rfl
  simp [execOp, ho, hx, h2, h3]
set_option maxHeartbeats 8000000 in
set_option maxRecDepth 100000 in
theorem quick_ok (x : ByteArray) (w : World) (hx : x.size ≤ 1073741824) : Calls Tryd.prog 47 #[.string x] w fun e w' => ∃ (v : Value) (sa : List Nat), e = .returned v ∧ Kd.Q (Kd.int .i64) 3 w' w.heap.size (fun _ => True) v (iN (sa.drop 1)) ∧ IsSA (x.size + 1) (txt (nb x)) sa ∧ Below w.heap.size w w' := by
  have HX := Aside0.mk hx
  obtain ⟨n, hn⟩ : ∃ n, x.size + 1 = n := ⟨_, rfl⟩
  have e0 : wrap64 ((x.size : Int) + 1) = (n : Int) := by rw [w64 (by omega) (by omega)]; omega
  have HN := Aside0.mk hn
  rw [hn]
  clear hx hn
  go_enter Tryd.func47, Tryd.ntmps47
  go_wp2_with (first
    | ((with_reducible refine gate_dst (N := 8) rfl ?_); refine make_blk rfl rfl n (congrArg (Value.int .i64) e0) (congrArg (Value.int .i64) e0) Tryd.underlying29 .i64 info3 (by decide) (by have := HX.out; have := HN.out; omega) ?_; intro g w2 G2 B2 C2))
  have B2' := Aside0.mk (show Blk w2 g .i64 3 (tabn n (fun j => if j < 0 then (txt (nb x) j : Int) else 0)) from by have := B2.out; rw [tabn_zero] at this; exact this)
  clear B2 e0
  go_loopg [11] x.size (fun q v11 w' => ∃ (L : Int) (i : Nat), v11 = .int .i64 L ∧ Aside0 (L = (i : Int) ∧ i + q = x.size) ∧ Aside0 (Blk w' g .i64 3 (tabn n (fun j => if j < i then (txt (nb x) j : Int) else 0))) ∧ Aside0 (Below w.heap.size w w'))
  case atStart => exact ⟨0, 0, rfl, ⟨rfl, by omega⟩, B2', C2⟩
  case round =>
    clear B2' C2
    obtain ⟨L, i, rfl, HL, B, C⟩ := hrel
    cases gk with
    | succ q =>
      obtain rfl : L = (i : Int) := HL.out.1
      have hin : i < x.size := by have := HL.out; omega
      have t1 : decide ((i : Int) < (x.size : Int)) = true := decide_eq_true (by omega)
      have p1 : ((i : Int) < (x.size : Int)) = True := eq_true (by omega)
      have p2 : (i < x.size) = True := eq_true hin
      have p3 : ((i : Int) < (n : Int)) = True := eq_true (by have := HN.out; omega)
      have p4 : (i < n) = True := eq_true (by have := HN.out; omega)
      have e1 : wrap64 ((i : Int) + 1) = ((i + 1 : Nat) : Int) := by have := HX.out; rw [w64 (by omega) (by omega)]; omega
      have kf := B.out.free i
      have kg := B.out.cell i (by rw [tabn_length]; have := HN.out; omega)
      have hb := bt_nb x i
      have HIN := Aside0.mk hin
      clear hin
      go_wp2
      go_roundg q
      case measure => omega
      case rel =>
        refine ⟨(i : Int) + 1, i + 1, rfl, ⟨by omega, by have := HL.out; omega⟩, ⟨?_⟩, ⟨below_set C.out G2.out⟩⟩
        have hxi : (x[i]'(HIN.out)).toNat = (nb x).getD i 0 := by
          unfold nb
          rw [List.getD_eq_getElem?_getD, List.getElem?_map, List.getElem?_eq_getElem (show i < x.data.toList.length by have := HIN.out; simpa using this)]
          rfl
        have hlt := nb_lt x ((nb x).getD i 0) (by rw [List.getD_eq_getElem?_getD, List.getElem?_eq_getElem (by rw [nb_length]; exact HIN.out)]; exact List.getElem_mem _)
        rw [hxi]
        refine blk_step B.out (fun j hj => ?_)
        by_cases e : j = i
        · rw [if_pos e, if_pos (by omega), e]
          unfold txt
          rw [if_pos (by rw [nb_length]; exact HIN.out), w64 (x := (((nb x).getD i 0 : Nat) : Int)) (by omega) (by omega), w64 (by omega) (by omega)]
          omega
        · rw [if_neg e]
          by_cases h2 : j < i
          · rw [if_pos h2, if_pos (by omega)]
          · rw [if_neg h2, if_neg (by omega)]
    | zero =>
      have t1 : decide (L < (x.size : Int)) = false := decide_eq_false (by have := HL.out; omega)
      have K4 := Aside0.mk (show Blk wr g .i64 3 (tabn n (fun j => (txt (nb x) j : Int))) from by
        refine (congrArg (Blk _ g .i64 3) (tabn_congr (fun j hj => ?_))).mp B.out
        by_cases h2 : j < i
        · rw [if_pos h2]
        · rw [if_neg h2]
          unfold txt
          rw [nb_length, if_neg (by have := HL.out; omega)]; rfl)
      have CK := Aside0.mk (show Kd.C (Kd.int .i64) wr (some ⟨g, 0, none⟩) n (tabn n (fun j => (txt (nb x) j : Int))) from by
        have h := blk_C K4.out (by rw [tabn_length]; have := HX.out; have := HN.out; omega)
        rw [tabn_length] at h; exact h)
      have hnum := num_txt (nb x) (nb_lt x) (by rw [nb_length]; exact HX.out)
      rw [nb_length, HN.out] at hnum
      have HNUM := Aside0.mk hnum
      have hind := induced_ok n n (Nat.le_refl n)
      unfold IndOk at hind
      have hq : Calls Tryd.prog 67 #[.slice (some ⟨g, 0, none⟩) n n, .int .i64 257] wr fun e w' => ∃ (g c : Nat) (sa : List Nat), e = .returned (.slice (some ⟨g, 0, none⟩) n c) ∧ c = n ∧ wr.heap.size ≤ g ∧ Blk w' g .i64 3 (iN sa) ∧ IsSA n (txt (nb x)) sa ∧ Below wr.heap.size wr w' := hind 257 (txt (nb x)) (some ⟨g, 0, none⟩) n wr hnum CK.out
      have HIND := Aside0.mk hq
      clear hind hnum HL B hq
      go_wp2_with (first
        | (go_at_call 67; with_reducible refine HIND.out.mono ?_; rintro e w3 ⟨g3, c3, sa, rfl, rfl, hG, hK, hS, hB⟩; have G3 := Aside0.mk (Nat.le_trans C.out.size hG); have K3 := Aside0.mk hK; have S3 := Aside0.mk hS; have B3 := Aside0.mk (below_step C.out hB); clear hG hK hS hB)
        | ((with_reducible refine gate_dst (N := 25) rfl ?_); refine val_event rfl (cut1 rfl rfl (by have := HN.out; omega)) ?_; obtain ⟨v25, hv25⟩ : ∃ v, (Value.slice (if c3 = 1 then some ⟨g3, 0, none⟩ else (some (⟨g3, 0, none⟩ : Addr)).map (·.add (1 * 1))) (c3 - 1) (c3 - 1)) = v := ⟨_, rfl⟩; rw [hv25]; have HV := Aside0.mk hv25; clear hv25))
      go_ret
      have hl : (iN sa).length = c3 := by rw [iN_len, S3.out.p.len]
      have hR := K3.out.R G3.out (by rw [hl]; have := HX.out; have := HN.out; simp [maxLen]; omega) (fun _ => True) trivial
      rw [hl] at hR
      have hQ := Kd.Q_drop (Kd.Q_of_R hR) (k := 1) (by rw [hl]; have := HN.out; omega)
      have e : iN (sa.drop 1) = (iN sa).drop 1 := by simp [iN, List.map_drop]
      rw [← e] at hQ
      rw [← HV.out]
      exact ⟨_, sa, rfl, hQ, S3.out, B3.out⟩
end Go.Proofs.YtdifgiceallpiaaDoor.Hd
