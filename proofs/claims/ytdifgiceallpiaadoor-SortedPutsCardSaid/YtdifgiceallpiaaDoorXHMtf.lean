/- mtf: the row of all bytes, walked by hand (an array behind a pointer). -/
import Derived.Test.YtdifgiceallpiaaDoorXPx0
import Derived.Test.YtdifgiceallpiaaDoorXHw
import Derived.Test.YtdifgiceallpiaaDoorXCom
import Derived.StillTailTactics
import Derived.Laws.CopyOwn
set_option linter.unusedVariables false
set_option linter.unusedSimpArgs false
set_option linter.unusedSectionVars false
namespace Go.Proofs.YtdifgiceallpiaaDoor.Hd
open Go.RowKit YtdifgiceallpiaaDoorW.PrintWords YtdifgiceallpiaaDoorW.PrintLast YtdifgiceallpiaaDoorW.PrintMore YtdifgiceallpiaaDoor.Hw
attribute [local go_sem] za9 za8 zbi zbj za0 za1 zba zbb
def upto (k : Nat) : List Int := (List.range k).map (fun n : Nat => (n : Int)) ++ List.replicate (256 - k) 0
theorem upto_length (k : Nat) (h : k ≤ 256) : (upto k).length = 256 := by simp [upto]; omega
theorem upto_set (k : Nat) (h : k < 256) : (upto k).set k (k : Int) = upto (k + 1) := by
 unfold upto
 have e : 256 - k = (256 - (k + 1)) + 1 := by omega
 rw [e, List.replicate_succ, List.set_append]
 simp [List.range_succ]
theorem zero40 : (Value.agg (Array.replicate 256 (.int .u8 0))).cells = ints .u8 (upto 0) := by kernel_rfl
theorem info40 : (Tryd.prog.info? 86).map (fun i => (i.zero, i.size, i.bytes)) = some (some (.agg (Array.replicate 256 (.int .u8 0))), 256, 256) := by kernel_rfl
set_option maxHeartbeats 2000000 in
set_option maxRecDepth 100000 in
theorem mfresh_calls (w : World) :
  Calls Tryd.prog 23 #[] w fun e w' => ∃ g, e = .returned (.pointer (some ⟨g, 0, none⟩)) ∧ Blk w' g .u8 86 (upto 256) ∧ w.heap.size ≤ g ∧ Below w.heap.size w w' := by
 go_enter Tryd.func23, Tryd.ntmps23
 go_wp2_with ((with_reducible refine zay (N := 1) rfl ?_); refine alloc_event rfl rfl info40 zero40 ?_)
 go_loopg [3] 256 (fun n v3 w' => ∃ (L : Int) (m : Nat), v3 = .int .i64 L ∧ zaa (L = (m : Int) ∧ m + n = 256) ∧ zaa (Blk w' w.heap.size .u8 86 (upto m)) ∧ zaa (Below w.heap.size w w'))
 case atStart => exact ⟨0, 0, rfl, ⟨rfl, rfl⟩, ⟨Blk.new _ _ _ _⟩, ⟨zac (Below.refl _ _) _⟩⟩
 case round =>
  obtain ⟨L, m, rfl, hA, HR, HB⟩ := hrel
  obtain ⟨hL, hm⟩ := hA.out
  cases gk with
  | zero =>
   have t1 : decide (L < 256) = false := decide_eq_false (by omega)
   have hm' : m = 256 := by omega
   subst hm'
   clear hL hm hA
   go_wp2
   go_ret
   exact ⟨_, rfl, HR.out, Nat.le_refl _, HB.out⟩
  | succ q =>
   have t1 : decide (L < 256) = true := decide_eq_true (by omega)
   have hlen := upto_length m (by omega)
   have hn : L.toNat = m := by omega
   have hc := HR.out.cell L.toNat (by omega)
   have hf := HR.out.free L.toNat
   have p1 : (0 ≤ L) = True := eq_true (by omega)
   have q1 : (L < 256) = True := eq_true (by omega)
   have HA := zaa.mk (And.intro hL hm)
   clear hA hL hm hlen hn
   go_wp2
   go_roundg q
   case measure => omega
   case rel =>
    obtain ⟨hL, hm⟩ := HA.out
    have e1 : L % 256 = (m : Int) := by omega
    have e2 : L.toNat = m := by omega
    refine ⟨wrap64 (L + 1), m + 1, rfl, ⟨?_, by omega⟩, ⟨?_⟩, ⟨zat HB.out (Nat.le_refl _)⟩⟩
    ·unfold wrap64; omega
    ·have := HR.out.put m (m : Int)
     rw [upto_set m (by omega)] at this
     rw [e1, e2]
     exact this
def moved (r : List Int) (at_ : Nat) : List Int := r.getD at_ 0 :: (r.take at_ ++ r.drop (at_ + 1))
theorem size5 : (Tryd.prog.info? 5).map (·.size) = some 1 := by kernel_rfl
set_option maxHeartbeats 2000000 in
set_option maxRecDepth 100000 in
theorem front_calls (g : Nat) (r : List Int) (i : Nat) (w : World) (hr : Blk w g .u8 86 r) (hl : r.length = 256) (hi : i < 256) :
  Calls Tryd.prog 24 #[.pointer (some ⟨g, 0, none⟩), .int .i64 (i : Int)] w fun e w' => e = .returned (.int .u8 (r.getD i 0)) ∧ Blk w' g .u8 86 (moved r i) ∧ w.grownBy w' (some g) := by
 have HR := zaa.mk hr
 have hc := hr.cell i (by omega)
 have p1 : (0 ≤ (i : Int)) = True := eq_true (by omega)
 have q1 : ((i : Int) < 256) = True := eq_true (by omega)
 have HI := zaa.mk hi
 have HL := zaa.mk hl
 have s1 : IntKind.i64.wrap ((i : Int) + 1) = (i : Int) + 1 := by rw [IntKind.wrap_i64]; omega
 have s2 : ((i : Int) + 1).toNat = i + 1 := by omega
 have s3 : (0 ≤ (i : Int) + 1) = True := eq_true (by omega)
 have s4 : ((i : Int) + 1 ≤ 256) = True := eq_true (by omega)
 have s5 : (1 ≤ (i : Int) + 1) = True := eq_true (by omega)
 have s6 : ((i : Int) ≤ 256) = True := eq_true (by omega)
 have s7 : ¬ ((i : Int) + 1 < 1) := by omega
 have s8 : ¬ (256 < (i : Int) + 1) := by omega
 have s9 : ¬ (256 < (i : Int)) := by omega
 clear hr hl hi
 go_enter Tryd.func24, Tryd.ntmps24
 go_wp2
 go_still_tail 9, (by kernel_rfl)
 refine copy_event (w := w.drew) rfl (.tmp 15) (.tmp 19) 48 48 rfl 5 Tryd.underlying48 size5 rfl rfl g 1 .u8 86 r (r.take i) HR.out ?hn ?hpos ?hfit ?_
 case hn => have := HL.out; have := HI.out; simp; omega
 case hpos =>
  intro hp
  refine ⟨rfl, _, rfl, fun j hj => ?_⟩
  have hj2 : j < i := by have := HL.out; simp at hj; omega
  have h1 : (r.take i).getD j 0 = r.getD j 0 := by simp [List.getD_eq_getElem?_getD, List.getElem?_take, hj2]
  rw [h1, add_plain]
  exact Blk.cell (W := w.drew) HR.out j (by have := HL.out; have := HI.out; omega)
 case hfit => have := HL.out; have := HI.out; simp; omega
 intro w1 HR1 hg1
 have hlen : (r.take 1 ++ (r.take i ++ r.drop (1 + (r.take i).length))).length = 256 := by
  have := HL.out; have := HI.out; simp; omega
 have hc0 := HR1.out.cell 0 (by omega)
 have hf0 := HR1.out.free 0
 have G := zaa.mk hg1
 have HLN := zaa.mk hlen
 clear hg1 hlen hc s1 s2 s3 s4 s5 s6 s7 s8 s9
 go_wp2
 go_ret
 refine ⟨rfl, ?_, ?_⟩
 ·have h := HR1.out.put 0 (r.getD i 0)
  have e1 : (r.take 1 ++ (r.take i ++ r.drop (1 + (r.take i).length))).set 0 (r.getD i 0) = moved r i := by
   have h1 := HL.out; have h2 := HI.out
   have hti : (r.take i).length = i := List.length_take_of_le (by omega)
   rw [hti, Nat.add_comm 1 i]
   cases r with
   | nil => simp at h1
   | cons x t => simp [moved]
  rw [e1] at h
  simp only [List.getD_eq_getElem?_getD] at h
  exact h
 ·exact grown_set (show w.grownBy w1 (some g) from ⟨G.out.os, G.out.tape, G.out.output, G.out.size, G.out.block⟩) 0 _
theorem front_at (g : Nat) (r : List Int) (K : Int) (w : World) (hr : Blk w g .u8 86 r) (hl : r.length = 256) (h0 : 0 ≤ K) (h1 : K < 256) :
  Calls Tryd.prog 24 #[.pointer (some ⟨g, 0, none⟩), .int .i64 K] w fun e w' => e = .returned (.int .u8 (r.getD K.toNat 0)) ∧ Blk w' g .u8 86 (moved r K.toNat) ∧ w.grownBy w' (some g) := by
 obtain ⟨i, rfl⟩ : ∃ i : Nat, K = i := ⟨K.toNat, by omega⟩
 simpa using front_calls g r i w hr hl (by omega)
def idx (r : List Int) (c : Int) : Nat := r.findIdx (fun x => x == c)
def zbu.go (r : List Int) : List Int → List Int
 | [] => []
 | c :: t => (idx r c : Int) :: zbu.go (moved r (idx r c)) t
def Full (r : List Int) : Prop := r.length = 256 ∧ ∀ c : Int, 0 ≤ c → c ≤ 255 → c ∈ r
theorem full_upto : Full (upto 256) := by
 refine ⟨upto_length 256 (by omega), fun c h0 h1 => ?_⟩
 simp only [upto, List.mem_append, List.mem_map, List.mem_range]
 exact .inl ⟨c.toNat, by omega, by omega⟩
theorem idx_lt {r : List Int} (h : Full r) {c : Int} (h0 : 0 ≤ c) (h1 : c ≤ 255) : idx r c < 256 := by
 have := h.2 c h0 h1
 rw [← h.1]
 exact List.findIdx_lt_length_of_exists ⟨c, this, by simp⟩
theorem idx_at {r : List Int} (h : Full r) {c : Int} (h0 : 0 ≤ c) (h1 : c ≤ 255) : r.getD (idx r c) 0 = c := by
 have hl : idx r c < r.length := by rw [h.1]; exact idx_lt h h0 h1
 have := List.findIdx_getElem (xs := r) (p := fun x => x == c) (w := hl)
 have e : r.getD (idx r c) 0 = r[idx r c] := by simp [List.getD_eq_getElem?_getD, List.getElem?_eq_getElem hl]
 rw [e]
 exact beq_iff_eq.1 this
theorem idx_not {r : List Int} {c : Int} {j : Nat} (hj : j < idx r c) (hl : j < r.length) : r.getD j 0 ≠ c := by
 have := List.not_of_lt_findIdx hj
 have e : r.getD j 0 = r[j] := by simp [List.getD_eq_getElem?_getD, List.getElem?_eq_getElem hl]
 rw [e]
 simpa using this
theorem full_moved {r : List Int} (h : Full r) {i : Nat} (hi : i < 256) : Full (moved r i) := by
 have hl : i < r.length := by rw [h.1]; exact hi
 refine ⟨?_, fun c h0 h1 => ?_⟩
 ·simp [moved, h.1]; omega
 ·have hc := h.2 c h0 h1
  have e : r = r.take i ++ r[i] :: r.drop (i + 1) := by rw [← List.drop_eq_getElem_cons hl, List.take_append_drop]
  rw [e] at hc
  have e2 : r.getD i 0 = r[i] := by simp [List.getD_eq_getElem?_getD, List.getElem?_eq_getElem hl]
  simp only [moved, e2, List.mem_cons, List.mem_append] at hc ⊢
  rcases hc with h | rfl | h
  ·exact .inr (.inl h)
  ·exact .inl rfl
  ·exact .inr (.inr h)
theorem go_length (l : List Int) : ∀ r, (zbu.go r l).length = l.length := by
 induction l with
 | nil => intro r; rfl
 | cons c t ih => intro r; simp [zbu.go, ih]
def zbu.f (a0 : ByteArray) : Option (List Int) := if a0.size ≤ 17592186044416 then some (zbu.go (upto 256) (bytesOf a0)) else none
theorem info3m : (Tryd.prog.info? 3).map (fun i => (i.zero, i.size, i.bytes)) = some (some (.int .i64 0), 1, 8) := by kernel_rfl
theorem info5m : (Tryd.prog.info? 5).map (fun i => (i.zero, i.size, i.bytes)) = some (some (.int .u8 0), 1, 1) := by kernel_rfl
set_option maxHeartbeats 8000000 in
set_option maxRecDepth 100000 in
theorem zbu.calls (a0 : ByteArray) (r : List Int) (w : World) (h : zbu.f a0 = some r) :
  Calls Tryd.prog 11 #[.string a0] w fun e w' => ∃ v0_ : Value, e = .returned (v0_) ∧ Kd.R (Kd.int .i64) 3 w' w.heap.size (fun _ => True) v0_ r ∧ Below w.heap.size w w' := by
 unfold zbu.f at h
 by_cases hs : a0.size ≤ 17592186044416
 case neg => rw [if_neg hs] at h; exact absurd h (by simp)
 rw [if_pos hs] at h
 have H := zaa.mk (Option.some.inj h)
 clear h
 have HS := zaa.mk hs
 clear hs
 go_enter Tryd.func11, Tryd.ntmps11
 go_wp2_with (first
  | (go_at_call 23; refine (mfresh_calls _).mono ?_; rintro e w1 ⟨g, rfl, hb1, hg1, hB1⟩; have R1 := zaa.mk hb1; have G1 := zaa.mk hg1; have B1 := zaa.mk hB1; clear hb1 hg1 hB1)
  | ((with_reducible refine zay (N := 11) rfl ?_); refine make_event rfl rfl a0.size rfl rfl Tryd.underlying29 .i64 info3m (by decide) (by have := HS.out; omega) ?_)
  | ((with_reducible refine zay (N := 13) rfl ?_); refine conv_event rfl rfl a0 rfl Tryd.underlying9 Tryd.underlying48 Tryd.underlying5 ?_; intro w2 c hcc hby hB2; have Y2 := zaa.mk hby; have B2 := zaa.mk hB2; clear hby hB2 hcc))
 have R2 := zaa.mk ((R1.out.alloc (.cells (ints .i64 (List.replicate a0.size 0)) 3)).below B2.out)
 have O2 := zaa.mk ((Blk.new w1 .i64 3 (List.replicate a0.size 0)).below B2.out)
 have C2 := zaa.mk (below_then (zac (w := w) (zaf B1.out (Below.refl _ _)) (.cells (ints .i64 (List.replicate a0.size 0)) 3)) (zam (zac (w := w) (zaf B1.out (Below.refl _ _)) (.cells (ints .i64 (List.replicate a0.size 0)) 3))) B2.out)
 have L1 := zaa.mk R1.out.lt
 have S1 := zaa.mk (zam B1.out)
 have Y3 := zaa.mk (show Byt w2 (w1.heap.size + 1) a0 from by simpa using Y2.out)
 obtain ⟨o, ho⟩ : ∃ o, w1.heap.size = o := ⟨_, rfl⟩
 rw [ho] at O2 L1 S1 Y3
 rw [ho]
 clear ho Y2 B2 R1 B1
 go_loopg [15] a0.size (fun q v15 w' => ∃ (L : Int) (m : Nat) (rw_ pre : List Int), v15 = .int .i64 L ∧ zaa (L = (m : Int) ∧ m + q = a0.size ∧ Full rw_ ∧ pre.length = m ∧ pre ++ zbu.go rw_ ((bytesOf a0).drop m) = r) ∧ zaa (Blk w' g .u8 86 rw_) ∧ zaa (Blk w' o .i64 3 (pre ++ List.replicate q 0)) ∧ zaa (Byt w' (o + 1) a0) ∧ zaa (Below w.heap.size w w'))
 case atStart => exact ⟨0, 0, upto 256, [], rfl, ⟨rfl, by omega, full_upto, rfl, H.out⟩, R2, O2, Y3, C2⟩
 case round =>
  clear R2 O2 Y3 C2 H
  obtain ⟨L, m, rw_, pre, rfl, A, R3, O3, Y3, C3⟩ := hrel
  obtain ⟨hL, hm, hfull, hpre, hgo⟩ := A.out
  cases gk with
  | zero =>
   have t1 : decide (L < (a0.size : Int)) = false := decide_eq_false (by omega)
   have hd : (bytesOf a0).drop m = [] := List.drop_eq_nil_of_le (by simp [bytesOf]; omega)
   rw [hd] at hgo
   simp only [zbu.go, List.append_nil] at hgo
   subst hgo
   have hz : pre.length = a0.size := by omega
   have RR := zaa.mk (O3.out.R (base := w.heap.size) (by have := S1.out; omega) (by simp [maxLen]; have := HS.out; omega) (fun _ => True) trivial)
   clear hL hm hfull hpre A hd
   go_wp2
   go_ret
   simp only [List.replicate_zero, List.append_nil, hz] at RR
   exact ⟨_, rfl, RR.out, C3.out⟩
  | succ q =>
   have t1 : decide (L < (a0.size : Int)) = true := decide_eq_true (by omega)
   obtain ⟨c, hc⟩ : ∃ c, bt a0 (m : Int) = c := ⟨_, rfl⟩
   have hcr := bt_range a0 (m : Int)
   rw [hc] at hcr
   have hby := Y3.out.cell m (by omega)
   rw [hc] at hby
   have e1 : L.toNat = m := by omega
   rw [← e1] at hby
   have p1 : (0 ≤ L) = True := eq_true (by omega)
   have q1 : (L < (a0.size : Int)) = True := eq_true (by omega)
   have hd : (bytesOf a0).drop m = c :: (bytesOf a0).drop (m + 1) := by
    have hl : m < (bytesOf a0).length := by simp [bytesOf]; omega
    rw [List.drop_eq_getElem_cons hl]
    congr 1
    rw [← hc]
    simp [bytesOf, bt, show m < a0.size by omega]
    rfl
   rw [hd] at hgo
   simp only [zbu.go] at hgo
   have hi := idx_lt hfull hcr.1 hcr.2
   have hat := idx_at hfull hcr.1 hcr.2
   have A2 := zaa.mk (And.intro hL (And.intro hm (And.intro hfull (And.intro hpre (And.intro hgo (And.intro hi (And.intro hat hcr)))))))
   clear A hL hm hfull hpre hgo hi hat hcr hd hc e1
   go_wp2
   go_loopg [7] (idx rw_ c) (fun q7 v7 w' => ∃ (K : Int) (j : Nat), v7 = .int .i64 K ∧ zaa (K = (j : Int) ∧ j + q7 = idx rw_ c) ∧ za3 wr w')
   case atStart => exact ⟨0, 0, rfl, ⟨rfl, by omega⟩, za3.refl _⟩
   case round =>
    obtain ⟨K, j, rfl, AK, ⟨nd, rfl⟩⟩ := hrel
    obtain ⟨hK, hj⟩ := AK.out
    have hlt := A2.out.2.2.2.2.2.1
    have hlen := A2.out.2.2.1.1
    have p2 : (0 ≤ K) = True := eq_true (by omega)
    have q2 : (K < 256) = True := eq_true (by omega)
    have e2 : K.toNat = j := by omega
    have hrc := (R3.out.drewN nd).cell K.toNat (by omega)
    cases gk with
    | zero =>
     have hje : j = idx rw_ c := by omega
     have hat : rw_.getD K.toNat 0 = c := by rw [e2, hje]; exact A2.out.2.2.2.2.2.2.1
     rw [hat] at hrc
     have t2 : (c != c) = false := bne_self_eq_false _
     have hoc := (O3.out.drewN nd).cell L.toNat (by have := A2.out; simp; omega)
     have hof := (O3.out.drewN nd).free L.toNat
     have AK2 := zaa.mk (And.intro hK (And.intro hje e2))
     clear AK hK hj hlt hlen e2 hat hje
     have hne : g ≠ o := by have := L1.out; omega
     have hne2 : o ≠ g := fun e => hne e.symm
     have hne3 : o + 1 ≠ o := by omega
     have hne4 : o + 1 ≠ g := by have := L1.out; omega
     have NE := zaa.mk (And.intro hne (And.intro hne2 (And.intro hne3 hne4)))
     clear hne hne2 hne3 hne4
     have P2 := zaa.mk (of_eq_true p2)
     have Q2 := zaa.mk (of_eq_true q2)
     go_wp2_with (go_at_call 24; refine (front_at g rw_ K _ ((R3.out.drewN nd).far NE.out.1 _) A2.out.2.2.1.1 P2.out Q2.out).mono ?_; rintro e w5 ⟨rfl, hr5, hk5⟩; have R5 := zaa.mk hr5; have K5 := zaa.mk hk5; clear hr5 hk5)
     go_roundg q
     case measure => omega
     case rel =>
      obtain ⟨hL, hm, hfull, hpre, hgo, hi, hat, hc0, hc1⟩ := A2.out
      obtain ⟨hK, hje, e2⟩ := AK2.out
      have hl : L.toNat = m := by omega
      have hO := ((O3.out.drewN nd).put L.toNat K).grown K5.out (by simpa using NE.out.2.1)
      have hY := ((Y3.out.drewN nd).far (p := ⟨o, L.toNat, none⟩) NE.out.2.2.1 (.int .i64 K)).grown K5.out (by simpa using NE.out.2.2.2)
      refine ⟨wrap64 (L + 1), m + 1, moved rw_ (idx rw_ c), pre ++ [(idx rw_ c : Int)], rfl, ⟨?_, by omega, full_moved hfull hi, by simp [hpre], ?_⟩, ⟨?_⟩, ⟨?_⟩, ⟨hY⟩, ⟨?_⟩⟩
      ·unfold wrap64; have := HS.out; omega
      ·simpa using hgo
      ·rw [← hje, ← e2]; exact R5.out
      ·have e3 : (pre ++ List.replicate (q + 1) (0 : Int)).set L.toNat K = pre ++ [(idx rw_ c : Int)] ++ List.replicate q 0 := by
        rw [hl, ← hpre, List.set_append]
        simp [List.replicate_succ, hK, hje]
       rw [e3] at hO
       exact hO
      ·exact pw_below_grown (zat (zab C3.out nd) S1.out) (some g) (zam (zat (zab C3.out nd) S1.out)) K5.out (fun k hk => by cases hk; exact G1.out)
    | succ q7 =>
     have hne : rw_.getD K.toNat 0 ≠ c := by rw [e2]; exact idx_not (by omega) (by omega)
     obtain ⟨x, hx⟩ : ∃ x, rw_.getD K.toNat 0 = x := ⟨_, rfl⟩
     rw [hx] at hrc hne
     clear hx
     have t2 : (x != c) = true := bne_iff_ne.mpr hne
     have AK2 := zaa.mk (And.intro hK hj)
     clear AK hK hj hlt hlen e2 hne
     go_wp2
     go_roundg q7
     case measure => omega
     case rel => exact ⟨wrap64 (K + 1), j + 1, rfl, ⟨by have := AK2.out; have := A2.out; unfold wrap64; omega, by have := AK2.out; omega⟩, by repeat (first | exact za3.refl _ | apply za3.step)⟩
def bk (r : List Int) : List Int → Option (List Int)
 | [] => some []
 | i :: t => if 0 ≤ i ∧ i < 256 then (bk (moved r i.toNat) t).map (fun l => r.getD i.toNat 0 :: l) else none
def told : Option (List Int) → ByteArray × Int
 | some l => (strOfNums l, 0)
 | none => (⟨#[]⟩, 2)
def mtf_Back.f (l0 : List Int) : Option (ByteArray × Int) := if l0.length ≤ 17592186044416 then some (told (bk (upto 256) l0)) else none
theorem str_runm {W : World} {o n : Nat} {l : List Int} (h : Blk W o .u8 5 l) (hn : l.length = n) (hm : n ≤ maxLen) : (convert 48 9 (.slice (some ⟨o, 0, none⟩) n n)).run Tryd.prog W = .ok (.string (strOfNums l)) W := by
 subst hn
 have := (Kd.R_reads' (h.R (base := 0) (Nat.zero_le _) hm (fun _ => True) trivial)).2.2
 exact Kd.C_string Tryd.underlying48 Tryd.underlying5 Tryd.underlying9 this
set_option maxHeartbeats 8000000 in
set_option maxRecDepth 100000 in
theorem mtf_Back.calls (A0 : Option Addr) (c0 : Nat) (l0 : List Int) (r1 : ByteArray) (r2 : Int) (w : World) (hr0 : Kd.C (Kd.int .i64) w A0 l0.length l0) (hc0 : l0.length ≤ c0) (h : mtf_Back.f l0 = some (r1, r2)) :
  Calls Tryd.prog 41 #[.slice A0 l0.length c0] w fun e w' => e = .returned (.tuple #[.string r1, .int .i64 r2]) ∧ Below w.heap.size w w' := by
 unfold mtf_Back.f at h
 by_cases hs : l0.length ≤ 17592186044416
 case neg => rw [if_neg hs] at h; exact absurd h (by simp)
 rw [if_pos hs] at h
 have H := zaa.mk (Option.some.inj h)
 have HR0 := zaa.mk hr0
 clear h hr0 hc0
 have HS := zaa.mk hs
 clear hs
 go_enter Tryd.func41, Tryd.ntmps41
 go_wp2_with (first
  | (go_at_call 23; refine (mfresh_calls _).mono ?_; rintro e w1 ⟨g, rfl, hb1, hg1, hB1⟩; have R1 := zaa.mk hb1; have G1 := zaa.mk hg1; have B1 := zaa.mk hB1; clear hb1 hg1 hB1)
  | ((with_reducible refine zay (N := 11) rfl ?_); refine make_event rfl rfl l0.length rfl rfl Tryd.underlying48 .u8 info5m (by decide) (by have := HS.out; omega) ?_))
 have R2 := zaa.mk (R1.out.alloc (.cells (ints .u8 (List.replicate l0.length 0)) 5))
 have O2 := zaa.mk (Blk.new w1 .u8 5 (List.replicate l0.length 0))
 have C2 := zaa.mk (zac (w := w) (zaf B1.out (Below.refl _ _)) (.cells (ints .u8 (List.replicate l0.length 0)) 5))
 have L1 := zaa.mk R1.out.lt
 have S1 := zaa.mk (zam B1.out)
 obtain ⟨o, ho⟩ : ∃ o, w1.heap.size = o := ⟨_, rfl⟩
 rw [ho] at O2 L1 S1
 rw [ho]
 clear ho R1 B1
 obtain ⟨w2, hw2⟩ : ∃ w2, w1.alloc (.cells (ints .u8 (List.replicate l0.length 0)) 5) = w2 := ⟨_, rfl⟩
 rw [hw2] at R2 O2 C2
 rw [hw2]
 clear hw2
 go_loopg [14] l0.length (fun q v14 w' => ∃ (L : Int) (m : Nat) (rw_ pre : List Int), v14 = .int .i64 L ∧ zaa (L = (m : Int) ∧ m + q = l0.length ∧ rw_.length = 256 ∧ pre.length = m ∧ told ((bk rw_ (l0.drop m)).map (fun l => pre ++ l)) = (r1, r2)) ∧ zaa (Blk w' g .u8 86 rw_) ∧ zaa (Blk w' o .u8 5 (pre ++ List.replicate q 0)) ∧ zaa (Below w.heap.size w w'))
 case atStart => exact ⟨0, 0, upto 256, [], rfl, ⟨rfl, by omega, full_upto.1, rfl, by simpa using H.out⟩, R2, O2, C2⟩
 case round =>
  clear R2 O2 C2 H
  obtain ⟨L, m, rw_, pre, rfl, A, R3, O3, C3⟩ := hrel
  obtain ⟨hL, hm, hfull, hpre, hgo⟩ := A.out
  cases gk with
  | zero =>
   have t1 : decide (L < (l0.length : Int)) = false := decide_eq_false (by omega)
   have hd : l0.drop m = [] := List.drop_eq_nil_of_le (by omega)
   rw [hd] at hgo
   simp only [bk, Option.map_some, told, List.append_nil, Prod.mk.injEq] at hgo
   obtain ⟨rfl, rfl⟩ := hgo
   have hz : pre.length = l0.length := by omega
   have hb := O3.out
   simp only [List.replicate_zero, List.append_nil] at hb
   have hcv := str_runm hb hz (by simp [maxLen]; have := HS.out; omega)
   clear hL hm hfull hpre A hd hz hb
   go_wp2
   go_ret2
   exact ⟨rfl, C3.out⟩
  | succ q =>
   have t1 : decide (L < (l0.length : Int)) = true := decide_eq_true (by omega)
   obtain ⟨ad, e1, hx⟩ := Kd.at_int HR0.out L (by omega) (by omega)
   subst e1
   obtain ⟨x, hxe⟩ : ∃ x, rd l0 L = x := ⟨_, rfl⟩
   rw [hxe] at hx
   replace hx := (C3.out.cell (World.block_lt_of_cell? w _ hx)).trans hx
   have p1 : (0 ≤ L) = True := eq_true (by omega)
   have q1 : (L < (l0.length : Int)) = True := eq_true (by omega)
   have hd : l0.drop m = x :: l0.drop (m + 1) := by
    have hl : m < l0.length := by omega
    rw [List.drop_eq_getElem_cons hl]
    congr 1
    rw [← hxe, hL]
    simp [rd, List.getD_eq_getElem?_getD, List.getElem?_eq_getElem hl]
   rw [hd] at hgo
   simp only [bk] at hgo
   by_cases hin : 0 ≤ x ∧ x < 256
   ·rw [if_pos hin] at hgo
    have t2 : decide (x < 0) = false := decide_eq_false (by omega)
    have t3 : decide (256 ≤ x) = false := decide_eq_false (by omega)
    have A2 := zaa.mk (And.intro hL (And.intro hm (And.intro hfull (And.intro hpre (And.intro hgo hin)))))
    have hoc := O3.out.cell L.toNat (by simp; omega)
    have hof := O3.out.free L.toNat
    have hne : g ≠ o := by have := L1.out; omega
    have hne2 : o ≠ g := fun e => hne e.symm
    have NE := zaa.mk (And.intro hne hne2)
    clear A hL hm hfull hpre hgo hd hxe hne hne2 hin hoc hof
    go_wp2_with (go_at_call 24; refine (front_at g rw_ x _ R3.out A2.out.2.2.1 A2.out.2.2.2.2.2.1 A2.out.2.2.2.2.2.2).mono ?_; rintro e w5 ⟨rfl, hr5, hk5⟩; have R5 := zaa.mk hr5; have K5 := zaa.mk hk5; have O5 := zaa.mk (O3.out.grown hk5 (by simpa using NE.out.2)); have hoc := O5.out.cell L.toNat (by have := A2.out; simp; omega); have hof := O5.out.free L.toNat; clear hr5 hk5)
    go_roundg q
    case measure => omega
    case rel =>
     obtain ⟨hL, hm, hfull, hpre, hgo, h0, h1⟩ := A2.out
     have hl : L.toNat = m := by omega
     refine ⟨wrap64 (L + 1), m + 1, moved rw_ x.toNat, pre ++ [rw_.getD x.toNat 0], rfl, ⟨?_, by omega, ?_, by simp [hpre], ?_⟩, ⟨?_⟩, ⟨?_⟩, ⟨?_⟩⟩
     ·unfold wrap64; have := HS.out; omega
     ·simp [moved, hfull]; omega
     ·rw [← hgo]
      congr 1
      simp [Option.map_map, Function.comp_def]
     ·exact R5.out.far (p := ⟨o, L.toNat, none⟩) NE.out.1 _
     ·have hO := O5.out.put L.toNat (rw_.getD x.toNat 0)
      have e3 : (pre ++ List.replicate (q + 1) (0 : Int)).set L.toNat (rw_.getD x.toNat 0) = pre ++ [rw_.getD x.toNat 0] ++ List.replicate q 0 := by
       rw [hl, ← hpre, List.set_append]
       simp [List.replicate_succ]
      rw [e3] at hO
      simp only [List.getD_eq_getElem?_getD] at hO ⊢
      exact hO
     ·exact zat (pw_below_grown C3.out (some g) (zam C3.out) K5.out (fun k hk => by cases hk; exact G1.out)) S1.out
   ·rw [if_neg hin] at hgo
    simp only [Option.map_none, told, Prod.mk.injEq] at hgo
    obtain ⟨rfl, rfl⟩ := hgo
    by_cases hn : x < 0
    ·have t2 : decide (x < 0) = true := decide_eq_true hn
     clear A hL hm hfull hpre hd hxe hin
     go_wp2
     go_ret2
     exact ⟨rfl, C3.out⟩
    ·have t2 : decide (x < 0) = false := decide_eq_false hn
     have t3 : decide (256 ≤ x) = true := decide_eq_true (by omega)
     clear A hL hm hfull hpre hd hxe hin
     go_wp2
     go_ret2
     exact ⟨rfl, C3.out⟩
end Go.Proofs.YtdifgiceallpiaaDoor.Hd
