/- slow.Decode, walked by hand. -/
import Derived.Test.YtlegmefnaghloaaHCn
import Derived.Test.YtlegmefnaghloaaHw
import Derived.BigQuiet
set_option linter.unusedVariables false
set_option linter.unusedSimpArgs false
set_option linter.unusedSectionVars false
namespace Go.Proofs.Ytlegmefnaghloaa.Hd
open Go Go.RowKit Go.Proofs.YtlegmefnaghloaaW.PrintWords Go.Proofs.YtlegmefnaghloaaW.PrintLast Go.Proofs.YtlegmefnaghloaaW.PrintMore Go.Proofs.Ytlegmefnaghloaa.Hw Go.Proofs.Ytlegmefnaghloaa.Com Go.Proofs.Ytlegmefnaghloaa.Cn Go.Proofs.Ytlegmefnaghloaa.P
attribute [local go_sem] max2_int min2_int max_two min_two max_three min_three max_four min_four
/-- A row of bits, so many of which were asked for. -/
def RowS (W : World) (g : Nat) (A : Option Addr) (n c at_ : Nat) : Prop := W.heap[g]? = some (.cells #[.slice A n c, .int .i64 (at_ : Int)] 43 (0, 0))
set_option maxHeartbeats 4000000 in
set_option maxRecDepth 100000 in
theorem next_end (g : Nat) (A : Option Addr) (n c at_ : Nat) (w : World) (hS : RowS w g A n c at_) (h : n ≤ at_) :
    Calls Try.prog 13 #[.pointer (some ⟨g, 0, none⟩)] w fun e w' => e = .returned (.tuple #[.int .i64 0, .bool false]) ∧ Drawn0 w w' := by
  have h0 := (blk_cell hS 0).trans (rfl : _ = some (Value.slice A n c))
  have h1 := (blk_cell hS 1).trans (rfl : _ = some (Value.int .i64 (at_ : Int)))
  have t1 : decide ((n : Int) ≤ (at_ : Int)) = true := decide_eq_true (by omega)
  have t2 : decide (n ≤ at_) = true := decide_eq_true h
  clear hS h
  go_enter Try.func13, Try.ntmps13
  go_wp2
  go_quiet (fail)
  go_wp2
  go_ret2
  exact ⟨rfl, by repeat (first | exact Drawn0.refl _ | apply Drawn0.step)⟩
set_option maxHeartbeats 8000000 in
set_option maxRecDepth 100000 in
theorem next_bit (g : Nat) (A : Option Addr) (n c at_ : Nat) (bs : List Bool) (w : World) (hS : RowS w g A n c at_) (hC : Kd.C Kd.bool w A n bs) (hl : bs.length = n) (h : at_ < n) (hn : n ≤ 140737488355328) (hA : ∀ ad, A = some ad → 0 < n → ad.block ≠ g) :
    Calls Try.prog 13 #[.pointer (some ⟨g, 0, none⟩)] w fun e w' => e = .returned (.tuple #[.int .i64 (if bs.getD at_ false then 1 else 0), .bool true]) ∧ RowS w' g A n c (at_ + 1) ∧ w.grownBy w' (some g) := by
  obtain ⟨bit, hbit⟩ : ∃ b, bs.getD at_ false = b := ⟨_, rfl⟩
  obtain ⟨ad, rfl, hcb⟩ := Kd.at_bool hC (at_ : Int) (by omega) (by omega)
  rw [Int.toNat_natCast, rdOf_nat, hbit] at hcb
  rw [hbit]
  have h0 := (blk_cell hS 0).trans (rfl : _ = some (Value.slice (some ad) n c))
  have h1 := (blk_cell hS 1).trans (rfl : _ = some (Value.int .i64 (at_ : Int)))
  have hf := blk_frozen hS 1
  have t1 : decide ((n : Int) ≤ (at_ : Int)) = false := decide_eq_false (by omega)
  have t2 : decide (n ≤ at_) = false := decide_eq_false (by omega)
  have S0 := Aside0.mk hS
  have HB := Aside0.mk (And.intro h hn)
  have HN := Aside0.mk (hA ad rfl (by omega))
  have HCB := Aside0.mk hcb
  clear hS hC hl h hn hA hbit hcb
  go_enter Try.func13, Try.ntmps13
  go_wp2
  go_quiet (fail)
  obtain ⟨w1, hw1⟩ : ∃ w1, w.drewN nq = w1 := ⟨_, rfl⟩
  have S1 := Aside0.mk (show RowS (w.drewN nq) g (some ad) n c at_ from S0.out)
  have G1 := Aside0.mk (show w.grownBy (w.drewN nq) (some g) from ⟨rfl, rfl, rfl, Nat.le_refl _, fun _ _ _ => rfl⟩)
  have C1 := Aside0.mk (show (w.drewN nq).cell? (ad.add at_) = some (.bool bit) from HCB.out)
  rw [hw1] at S1 G1 C1
  rw [hw1]
  clear hw1 h0 h1 hf
  have h0 := (blk_cell S1.out 0).trans (rfl : _ = some (Value.slice (some ad) n c))
  have h1 := (blk_cell S1.out 1).trans (rfl : _ = some (Value.int .i64 (at_ : Int)))
  have hf := blk_frozen S1.out 1
  have b1 : (at_ : Int) ≤ 140737488355328 := by have := HB.out; omega
  go_wp2
  obtain ⟨w2, hw2⟩ : ∃ w2, w1.setCell ⟨g, 1, none⟩ (.int .i64 ((at_ : Int) + 1)) = w2 := ⟨_, rfl⟩
  have S2 := Aside0.mk (show RowS (w1.setCell ⟨g, 1, none⟩ (.int .i64 ((at_ : Int) + 1))) g (some ad) n c (at_ + 1) from blk_put S1.out 1 _ (by simp))
  have G2 := Aside0.mk (grown_set G1.out 1 (.int .i64 ((at_ : Int) + 1)))
  have C2 := Aside0.mk (show (w1.setCell ⟨g, 1, none⟩ (.int .i64 ((at_ : Int) + 1))).cell? (ad.add at_) = some (.bool bit) from
    (show _ = w1.cell? (ad.add at_) from by
      have hne : (ad.add at_).block ≠ g := by rw [add_block]; exact HN.out
      have hb := Below.heap_setCell w1 ⟨g, 1, none⟩ (.int .i64 ((at_ : Int) + 1)) _ hne
      unfold World.cell?
      rw [hb]).trans C1.out)
  rw [hw2] at S2 G2 C2
  rw [hw2]
  clear hw2 h0 h1 hf
  have h0 := (blk_cell S2.out 0).trans (rfl : _ = some (Value.slice (some ad) n c))
  have h1 := (blk_cell S2.out 1).trans (rfl : _ = some (Value.int .i64 ((at_ + 1 : Nat) : Int)))
  have h2 := C2.out
  have e1 : wrap64 (((at_ + 1 : Nat) : Int) - 1) = (at_ : Int) := by rw [w64 (by omega) (by have := HB.out; omega)]; omega
  have e2 : IntKind.i64.wrap (((at_ + 1 : Nat) : Int) - 1) = (at_ : Int) := by rw [i64_w]; exact e1
  have e3 : wrap64 ((at_ : Int) + 1 - 1) = (at_ : Int) := by rw [w64 (by omega) (by have := HB.out; omega)]; omega
  have e4 : IntKind.i64.wrap ((at_ : Int) + 1 - 1) = (at_ : Int) := by rw [i64_w]; exact e3
  have q1 : (0 ≤ (at_ : Int)) = True := eq_true (by omega)
  have q2 : ((at_ : Int) < (n : Int)) = True := eq_true (by have := HB.out; omega)
  have q3 : (at_ < n) = True := eq_true HB.out.1
  go_quiet (fail)
  cases bit with
  | true =>
    go_wp2
    go_ret2
    exact ⟨rfl, S2.out, gr_step G2.out (gr_below (pw_below_drewN (Below.refl _ _) _) _)⟩
  | false =>
    go_wp2
    go_ret2
    exact ⟨rfl, S2.out, gr_step G2.out (gr_below (pw_below_drewN (Below.refl _ _) _) _)⟩
/-- Bit by bit: from a length on, with what was read. -/
def sdm (l : List Int) : Nat → Nat → Nat → List Bool → Int × Int × Int
  | 0, _, _, _ => (0, 0, 4)
  | _ + 1, _, _, [] => (0, 0, 3)
  | m + 1, k, c, b :: t =>
    if 2 * c + (if b then 1 else 0) < F (cn l) k + cn l k then ((od l (S (cn l) k + (2 * c + (if b then 1 else 0) - F (cn l) k)) : Int), (k : Int), 0)
    else if S (cn l) (k + 1) = (ord l).length then (0, 0, 4) else sdm l m (k + 1) (2 * c + (if b then 1 else 0)) t
def slow_Decode.f (k : Nat) (l : List Int) (bits : List Bool) : Option (Int × Int × Int) := (kraft_Check.f k l 16).bind fun t => if t = 0 then (if bits.length ≤ 140737488355328 then some (sdm l 16 1 0 bits) else none) else some (0, 0, t)
theorem slow_Decode.mono : ∀ (l : List Int) (bits : List Bool) (k : Nat), LeO (slow_Decode.f k l bits) (slow_Decode.f (k + 1) l bits) := fun l _ k => LeO.bind (kraft_Check.mono l 16 k) (fun _ => LeO.refl _)
theorem or_b (c : Nat) (b : Bool) (h : c ≤ 65536) : Go.bits .or .i64 ((c : Int) * 2) (if b then 1 else 0) = ((2 * c + (if b then 1 else 0) : Nat) : Int) := by
  have e : ((c : Int) * 2) = ((c * 2 : Nat) : Int) := by omega
  cases b with
  | true =>
    rw [e, if_pos rfl, if_pos rfl, show (1 : Int) = ((1 : Nat) : Int) from rfl, (bits_i64 (c * 2) 1 (by omega) (by omega)).2, or_join (c * 2) 1 1 (by omega) (by omega)]
    omega
  | false =>
    rw [e, if_neg (by decide), if_neg (by decide), show (0 : Int) = ((0 : Nat) : Int) from rfl, (bits_i64 (c * 2) 0 (by omega) (by omega)).2, Nat.or_zero]
    omega
theorem OL_at {l : List Int} {p : Nat} (hp : p < (ord l).length) : ((ord l).map (fun n : Nat => (n : Int))).getD p 0 = (od l p : Int) := by
  unfold od
  rw [List.getD_eq_getElem?_getD, List.getElem?_map, List.getElem?_eq_getElem hp, List.getD_eq_getElem?_getD, List.getElem?_eq_getElem hp]
  rfl
theorem CN_at {w : World} {g t : Nat} {l : List Int} (h : Blk w g .i64 t (CN l)) {k : Nat} (hk : k ≤ 16) : w.cell? ⟨g, k, none⟩ = some (.int .i64 (cn l k : Int)) := by
  have h1 := h.cell k (by rw [show (CN l).length = 17 from tabn_length _ _]; omega)
  rw [h1, show (CN l).getD k 0 = (cn l k : Int) from tabn_getD (by omega)]
theorem w_sub {d f : Nat} (hd : d ≤ 131072) (h : f ≤ d) : wrap64 ((d : Int) - (f : Int)) = ((d - f : Nat) : Int) := by rw [w64 (by omega) (by omega)]; omega
theorem w_add {a b : Nat} (ha : a ≤ 131072) (hb : b ≤ 131072) : wrap64 ((a : Int) + (b : Int)) = ((a + b : Nat) : Int) := by rw [w64 (by omega) (by omega)]; omega
theorem w_kk {kn : Nat} (h : kn + 1 ≤ 16) : wrap64 ((kn : Int) + 1 + 1) = ((kn + 1 + 1 : Nat) : Int) := by rw [w64 (by omega) (by omega)]; omega
theorem k_q {kn q : Nat} (h : kn + (q + 1) = 16) : kn + 1 + q = 16 := by omega
theorem ge_of {d f e n : Nat} (h1 : f ≤ d) (h2 : d - f = e) (h3 : ¬ e < n) : f + n ≤ d := by omega
theorem ord_cell {w : World} {b : Nat} {Ao : Option Addr} {no co : Nat} {l L : List Int} (hL : L = (ord l).map (fun n : Nat => (n : Int))) (hn : L.length = no) (h : Kd.R (Kd.int .i64) 3 w b (fun _ => True) (.slice Ao no co) L) {p : Nat} (hp : p < no) : ∃ ad, Ao = some ad ∧ w.cell? (ad.add p) = some (.int .i64 (od l p : Int)) := by
  obtain ⟨A2, c2, e2, _, hC2⟩ := Kd.R_reads h
  injection e2 with e3 _ _
  subst e3
  obtain ⟨ad, ea, hc⟩ := Kd.at_int hC2 ((p : Nat) : Int) (by omega) (by omega)
  refine ⟨ad, ea, ?_⟩
  rw [Int.toNat_natCast] at hc
  rw [hc]
  have h1 : p < (ord l).length := by rw [hL, List.length_map] at hn; omega
  have h2 := rd_at (l := L) (m := p) (L := (p : Int)) rfl (by omega)
  have h3 := OL_at (l := l) h1
  rw [← hL, List.getD_eq_getElem?_getD, h2] at h3
  exact congrArg (fun x => some (Value.int .i64 x)) h3
set_option maxHeartbeats 8000000 in
set_option maxRecDepth 100000 in
theorem slow_Decode.calls (k : Nat) (A0 : Option Addr) (c0 : Nat) (l0 : List Int) (A1 : Option Addr) (c1 : Nat) (l1 : List Bool) (r1 r2 r3 : Int) (w : World) (hr0 : Kd.C (Kd.int .i64) w A0 l0.length l0) (hc0 : l0.length ≤ c0) (hr1 : Kd.C Kd.bool w A1 l1.length l1) (hc1 : l1.length ≤ c1) (h : slow_Decode.f k l0 l1 = some (r1, r2, r3)) :
    Calls Try.prog 6 #[.slice A0 l0.length c0, .slice A1 l1.length c1] w fun e w' => e = .returned (.tuple #[.int .i64 r1, .int .i64 r2, .int .i64 r3]) ∧ Below w.heap.size w w' := by
  unfold slow_Decode.f at h
  replace h := Option.bind_eq_some_iff.mp h
  obtain ⟨t, ht, h⟩ := h
  have KC := Aside0.mk ht
  have HR := Aside0.mk hr0
  have HC := Aside0.mk hc0
  have HR1 := Aside0.mk hr1
  by_cases t0 : t = 0
  case neg =>
    rw [if_neg t0] at h
    simp only [Option.some.injEq, Prod.mk.injEq] at h
    obtain ⟨rfl, rfl, rfl⟩ := h
    clear ht hr0 hc0 hr1 hc1
    have t1 : (t != 0) = true := by simpa using t0
    go_enter Try.func6, Try.ntmps6
    go_wp2_with (first
      | (go_at_call 11; (with_reducible refine (kraft_Check.calls k _ _ l0 16 t _ HR.out HC.out KC.out).mono ?_); rintro e w1 ⟨rfl, hB⟩; have B1 := Aside0.mk (Hd.drawn_b hB); clear hB))
    go_ret3
    exact ⟨rfl, B1.out⟩
  subst t0
  rw [if_pos rfl] at h
  by_cases hbl : l1.length ≤ 140737488355328
  case neg => rw [if_neg hbl] at h; cases h
  rw [if_pos hbl] at h
  replace h := Option.some.inj h
  have HK := Aside0.mk (check_ok ht)
  have HT := Aside0.mk h
  have HBL := Aside0.mk hbl
  have KO := Aside0.mk (show canon_Order.f k l0 = some ((ord l0).map (fun n : Nat => (n : Int))) from by unfold canon_Order.f; rw [ht]; rfl)
  have OLN := Aside0.mk (ord_le l0 (check_ok ht).1)
  clear h ht hr0 hc0 hr1 hc1 hbl
  go_enter Try.func6, Try.ntmps6
  go_wp2_with (first
    | (go_at_call 11; (with_reducible refine (kraft_Check.calls k _ _ l0 16 0 _ HR.out HC.out KC.out).mono ?_); rintro e w1 ⟨rfl, hB⟩; have B1 := Aside0.mk (Hd.drawn_b hB); clear hB)
    | ((with_reducible refine gate_dst (N := 8) rfl ?_); refine alloc_blk rfl rfl info38 .i64 _ zero38 ?_; intro g8 w2 G8 K8 B8))
  have B2 := Aside0.mk (below_step B1.out B8.out)
  have G8' := Aside0.mk (Nat.le_trans B1.out.size G8.out)
  clear B1 B8 G8
  go_loopg [27] l0.length (fun q v27 w' => ∃ (L : Int) (m : Nat), v27 = .int .i64 L ∧ Aside0 (L = (m : Int) ∧ m + q = l0.length) ∧ Aside0 (Blk w' g8 .i64 38 (CN (l0.take m))) ∧ Aside0 (Below w.heap.size w w'))
  case atStart => exact ⟨0, 0, rfl, ⟨rfl, by omega⟩, ⟨by have := K8.out; rw [tabn_zero] at this; exact this⟩, B2⟩
  case round =>
    clear B2 K8
    obtain ⟨L, m, rfl, HA, K3, B3⟩ := hrel
    cases gk with
    | succ q =>
      have t1 : decide (L < (l0.length : Int)) = true := decide_eq_true (by have := HA.out; omega)
      have p1 : (0 ≤ L) = True := eq_true (by have := HA.out; omega)
      have q1 : (L < (l0.length : Int)) = True := eq_true (by have := HA.out; omega)
      have hat := rd_at (l := l0) HA.out.1 (by have := HA.out; omega)
      have hmem := HK.out.2 _ (rd_mem (l := l0) HA.out.1 (by have := HA.out; omega))
      obtain ⟨ad, e_, hc⟩ := Kd.at_int HR.out L (by have := HA.out; omega) (by have := HA.out; omega)
      subst e_
      have hc1 := (B3.out.cell (World.block_lt_of_cell? w _ hc)).trans hc
      clear hc
      obtain ⟨x, hx⟩ : ∃ x, rd l0 L = x := ⟨_, rfl⟩
      rw [hx] at hat hmem hc1
      clear hx
      by_cases h0 : 0 < x
      · have t2 : decide (0 < x) = true := decide_eq_true h0
        have p2 : (0 ≤ x) = True := eq_true (by omega)
        have q2 : (x < 17) = True := eq_true (by omega)
        have hlen : (CN (l0.take m)).length = 17 := tabn_length _ _
        have hcc := K3.out.cell x.toNat (by omega)
        have hval : (CN (l0.take m)).getD x.toNat 0 = (cn (l0.take m) x.toNat : Int) := tabn_getD (by omega)
        rw [hval] at hcc
        have hff := K3.out.free x.toNat
        have hle : cn (l0.take m) x.toNat ≤ 1024 := by
          have h1 := cn_take_le l0 m x.toNat
          have h2 := cn_le l0 x.toNat
          have := HK.out.1
          omega
        have ew : wrap64 ((cn (l0.take m) x.toNat : Int) + 1) = (cn (l0.take m) x.toNat : Int) + 1 := Com.w64 (by omega) (by omega)
        have HS := Aside0.mk (And.intro hat h0)
        have EW := Aside0.mk ew
        clear hat hmem h0 hlen hval hle ew
        go_wp2
        go_roundg q
        case measure => omega
        case rel =>
          refine ⟨wrap64 (L + 1), m + 1, rfl, ⟨?_, by have := HA.out; omega⟩, ⟨?_⟩, ⟨below_set B3.out G8'.out⟩⟩
          · have := HA.out; have := HK.out.1; rw [Com.w64 (by omega) (by omega)]; omega
          · rw [EW.out, ← CN_step HS.out.1 HS.out.2]
            exact K3.out.put _ _
      · have t2 : decide (0 < x) = false := decide_eq_false h0
        have HS := Aside0.mk (And.intro hat h0)
        clear hat hmem h0
        go_wp2
        go_roundg q
        case measure => omega
        case rel =>
          refine ⟨wrap64 (L + 1), m + 1, rfl, ⟨?_, by have := HA.out; omega⟩, ⟨?_⟩, B3⟩
          · have := HA.out; have := HK.out.1; rw [Com.w64 (by omega) (by omega)]; omega
          · rw [← CN_skip HS.out.1 (Int.not_lt.2 HS.out.2)]
            exact K3.out
    | zero =>
      have t1 : decide (L < (l0.length : Int)) = false := decide_eq_false (by have := HA.out; omega)
      have E := Aside0.mk (show l0.take m = l0 from List.take_of_length_le (by have := HA.out; omega))
      rw [E.out] at K3
      clear E HA
      go_wp2_with (first
        | (go_at_call 12; (with_reducible refine (canon_Order.calls k _ _ l0 _ _ (Kd.C_below HR.out B3.out) HC.out KO.out).mono ?_); rintro e w4 ⟨vo, rfl, hO, hB⟩; have O4 := Aside0.mk (Kd.R_lower hO B3.out.size); have K4 := Aside0.mk (K3.out.below hB); have B4 := Aside0.mk (below_step B3.out hB); clear hO hB)
        | ((with_reducible refine gate_dst (N := 43) rfl ?_); refine box_event ?hg (N := 43) ?hd (cs := #[.slice A1 l1.length c1, .int .i64 0]) (t := 43) ?hr ?_; (case hd => rfl); (case hg => rfl); (case hr => first | (go_simp; done) | (go_simp; rfl)); intro gr hgr w5 hx5 hB5; have O5 := Aside0.mk (Kd.R_below O4.out hB5); have K5 := Aside0.mk (K4.out.below hB5); have B5 := Aside0.mk (below_step B4.out hB5); have R5 := Aside0.mk (show RowS w5 gr A1 l1.length c1 0 from hx5); have GR := Aside0.mk (show w.heap.size ≤ gr from by rw [hgr]; exact B4.out.size); clear hgr hx5 hB5))
      obtain ⟨Ao, co, rfl, hlo, hCo⟩ := Kd.R_reads O5.out
      obtain ⟨no, hno⟩ : ∃ no, ((ord l0).map (fun n : Nat => (n : Int))).length = no := ⟨_, rfl⟩
      rw [hno] at O5
      rw [hno]
      have NO := Aside0.mk (show no = (ord l0).length ∧ no ≤ 17408 from by
        have := OLN.out
        rw [List.length_map] at hno
        omega)
      obtain ⟨OLL, hOL⟩ : ∃ L : List Int, (ord l0).map (fun n : Nat => (n : Int)) = L := ⟨_, rfl⟩
      rw [hOL] at O5 hno
      have HOL := Aside0.mk (And.intro hOL hno)
      have HNE := Aside0.mk (show ∀ ad, A1 = some ad → 0 < l1.length → ad.block ≠ gr from fun ad e hp => by
        subst e
        obtain ⟨ad', e', hc'⟩ := Kd.at_bool HR1.out 0 (by omega) (by omega)
        have e2 := Option.some.inj e'
        subst e2
        have h1 := World.block_lt_of_cell? w _ hc'
        rw [add_block] at h1
        have := GR.out
        omega)
      clear hlo hCo hno hOL O4 K4 B4 K3 B3
      go_loopg [13, 14, 15, 16] 16 (fun q v13 v14 v15 v16 w' => ∃ (kk code first ahead : Int) (kn c : Nat), v13 = .int .i64 code ∧ v14 = .int .i64 first ∧ v15 = .int .i64 ahead ∧ v16 = .int .i64 kk ∧
        Aside0 (kk = ((kn + 1 : Nat) : Int) ∧ kn + q = 16 ∧ code = (c : Int) ∧ first = ((F (cn l0) kn + cn l0 kn : Nat) : Int) ∧ ahead = (S (cn l0) (kn + 1) : Int) ∧ F (cn l0) kn + cn l0 kn ≤ c ∧ c < 2 ^ kn ∧ kn ≤ l1.length ∧ sdm l0 q (kn + 1) c (l1.drop kn) = (r1, r2, r3)) ∧
        Aside0 (RowS w' gr A1 l1.length c1 kn) ∧ Aside0 (Blk w' g8 .i64 38 (CN l0)) ∧ Aside0 (Kd.R (Kd.int .i64) 3 w' w.heap.size (fun _ => True) (.slice Ao no co) OLL) ∧ Aside0 (Below w.heap.size w w'))
      case atStart => exact ⟨1, 0, 0, 0, 0, 0, rfl, rfl, rfl, rfl, ⟨rfl, rfl, rfl, by simp [F, cn_zero], by simp [S, cn_zero], by simp [F, cn_zero], by decide, Nat.zero_le _, HT.out⟩, R5, K5, O5, B5⟩
      case round =>
        clear R5 K5 O5 B5
        obtain ⟨kk, code, first, ahead, kn, c, rfl, rfl, rfl, rfl, HA, R, K, O, B⟩ := hrel
        cases gk with
        | zero =>
          have t2 : decide (kk ≤ 16) = false := decide_eq_false (by have := HA.out; omega)
          have E := HA.out.2.2.2.2.2.2.2.2
          simp only [sdm, Prod.mk.injEq] at E
          have E := Aside0.mk E
          go_wp2
          go_ret3
          obtain ⟨e1, e2, e3⟩ := E.out
          rw [← e1, ← e2, ← e3]
          exact ⟨rfl, B.out⟩
        | succ q =>
          have t2 : decide (kk ≤ 16) = true := decide_eq_true (by have := HA.out; omega)
          by_cases hend : l1.length ≤ kn
          · have E := HA.out.2.2.2.2.2.2.2.2
            rw [List.drop_eq_nil_of_le hend] at E
            simp only [sdm, Prod.mk.injEq] at E
            have E := Aside0.mk E
            have HE := Aside0.mk hend
            clear hend
            go_wp2_with (first
              | ((with_reducible refine gate_dst (N := 51) rfl ?_); refine goesV_ (some 51) rfl rfl Try.func13 (by kernel_rfl) rfl rfl rfl #[.pointer (some ⟨gr, 0, none⟩)] (by simp [go_sem]) ?_; refine (next_end gr A1 l1.length c1 kn _ R.out HE.out).mono ?_; rintro e w6 ⟨rfl, hd⟩; refine ⟨_, rfl, ?_⟩; have B6 := Aside0.mk (below_step B.out hd.below); clear hd))
            go_ret3
            obtain ⟨e1, e2, e3⟩ := E.out
            rw [← e1, ← e2, ← e3]
            exact ⟨rfl, B6.out⟩
          · have hkl : kn < l1.length := by omega
            obtain ⟨b, hb⟩ : ∃ b, l1.getD kn false = b := ⟨_, rfl⟩
            have hdrop : l1.drop kn = b :: l1.drop (kn + 1) := by
              rw [List.drop_eq_getElem_cons hkl]
              rw [List.getD_eq_getElem?_getD, List.getElem?_eq_getElem hkl] at hb
              simp at hb
              rw [hb]
            have E := HA.out.2.2.2.2.2.2.2.2
            rw [hdrop, sdm] at E
            have hbb : (if b = true then 1 else 0) ≤ 1 := by split <;> omega
            have hcb : c < 65536 := by
              have h1 := HA.out.2.2.2.2.2.2.1
              have h2 : 2 ^ kn ≤ 2 ^ 16 := Nat.pow_le_pow_right (by omega) (by have := HA.out; omega)
              have h3 : (2 : Nat) ^ 16 = 65536 := by decide
              omega
            have hor := or_b c b (by omega)
            obtain ⟨v, hv⟩ : ∃ v : Int, (if b = true then 1 else 0) = v := ⟨_, rfl⟩
            rw [hv] at hor
            obtain ⟨d, hd⟩ : ∃ d : Nat, 2 * c + (if b = true then 1 else 0) = d := ⟨_, rfl⟩
            rw [hd] at E hor
            have hF1 : F (cn l0) (kn + 1) = 2 * (F (cn l0) kn + cn l0 kn) := by rw [F]; omega
            obtain ⟨f, hf⟩ : ∃ f, F (cn l0) (kn + 1) = f := ⟨_, rfl⟩
            obtain ⟨n, hn⟩ : ∃ n, cn l0 (kn + 1) = n := ⟨_, rfl⟩
            have hS1 : S (cn l0) (kn + 1 + 1) = S (cn l0) (kn + 1) + cn l0 (kn + 1) := rfl
            obtain ⟨s, hs⟩ : ∃ s, S (cn l0) (kn + 1) = s := ⟨_, rfl⟩
            rw [hf] at hF1 E
            rw [hn] at hS1 E
            rw [hs] at hS1 E
            rw [hS1] at E
            have hn1 : n ≤ 1024 := by have := cn_le l0 (kn + 1); have := HK.out.1; omega
            have hsn : s + n ≤ no := by
              have h1 := S_mono (cn l0) (show kn + 1 + 1 ≤ 17 by have := HA.out; omega)
              have h2 := ord_length l0
              have h3 := NO.out.1
              omega
            have hfd : f ≤ d := by have := HA.out.2.2.2.2.2.1; omega
            have hd2 : d < 2 ^ (kn + 1) := by
              have h1 := HA.out.2.2.2.2.2.2.1
              rw [Nat.pow_succ]; omega
            have eh : ahead = (s : Int) := by have := HA.out.2.2.2.2.1; rw [hs] at this; exact this
            have ef : first * 2 = (f : Int) := by have := HA.out.2.2.2.1; rw [this]; omega
            have ec : code = (c : Int) := HA.out.2.2.1
            have ek : kk = (kn : Int) + 1 := by have := HA.out.1; omega
            have FC := Aside0.mk (And.intro hF1 (And.intro hf (And.intro hn (And.intro hs (And.intro hS1 (And.intro hfd hd2))))))
            have BD := Aside0.mk (show c < 65536 ∧ d ≤ 131072 ∧ f ≤ 131072 ∧ n ≤ 1024 ∧ s + n ≤ no ∧ kn < l1.length ∧ kn + 1 ≤ 16 from by
              have := HA.out; refine ⟨hcb, by omega, by omega, hn1, hsn, hkl, by omega⟩)
            have HB := Aside0.mk (And.intro hb (And.intro hv hd))
            have EE := Aside0.mk E
            have EK := Aside0.mk (And.intro ek (And.intro ec (And.intro ef eh)))
            clear hend hdrop hbb hcb hF1 hS1 hf hn hs hn1 hsn hfd hd2 hb hv hd hkl E
            subst ec
            subst eh
            subst ek
            clear ef
            have p1 : (0 ≤ (kn : Int) + 1) = True := eq_true (by omega)
            have p2 : ((kn : Int) + 1 < 17) = True := eq_true (by have := BD.out; omega)
            have p3 : ((kn : Int) + 1).toNat = kn + 1 := by omega
            have p4 : (kn + 1 < 17) = True := eq_true (by have := BD.out; omega)
            have o1 : IntKind.i64.wrap ((c : Int) * 2) = (c : Int) * 2 := by rw [IntKind.wrap_i64]; have := BD.out; omega
            have o2 : wrap64 ((c : Int) * 2) = (c : Int) * 2 := w64 (by omega) (by have := BD.out; omega)
            have o3 : IntKind.i64.wrap (first * 2) = (f : Int) := by rw [EK.out.2.2.1, IntKind.wrap_i64]; have := BD.out; omega
            have o4 : wrap64 (first * 2) = (f : Int) := by rw [EK.out.2.2.1]; exact w64 (by omega) (by have := BD.out; omega)
            obtain ⟨e, he⟩ : ∃ e : Nat, d - f = e := ⟨_, rfl⟩
            have y1 : wrap64 ((d : Int) - (f : Int)) = (e : Int) := by rw [w_sub BD.out.2.1 FC.out.2.2.2.2.2.1, he]
            have BS := Aside0.mk (show s ≤ 131072 ∧ n ≤ 131072 ∧ e ≤ 131072 from ⟨Nat.le_trans (Nat.le_trans (Nat.le_add_right s n) BD.out.2.2.2.2.1) (Nat.le_trans NO.out.2 (by decide)), Nat.le_trans BD.out.2.2.2.1 (by decide), he ▸ Nat.le_trans (Nat.sub_le d f) BD.out.2.1⟩)
            have HE := Aside0.mk (And.intro he y1)
            clear he
            by_cases hlt : e < n
            · have t3 : decide ((e : Int) < (n : Int)) = true := decide_eq_true (by omega)
              have y2 : wrap64 ((s : Int) + (e : Int)) = ((s + e : Nat) : Int) := w_add BS.out.1 BS.out.2.2
              obtain ⟨pos, hpos⟩ : ∃ p, s + e = p := ⟨_, rfl⟩
              rw [hpos] at y2
              obtain ⟨ad, ha, _⟩ := ord_cell HOL.out.1.symm HOL.out.2 O.out (show pos < no by have := BD.out.2.2.2.2.1; omega)
              subst ha
              have q1 : (0 ≤ (pos : Int)) = True := eq_true (by omega)
              have q2 : ((pos : Int) < (no : Int)) = True := eq_true (by have := BD.out.2.2.2.2.1; omega)
              have q3 : (pos < no) = True := eq_true (by have := BD.out.2.2.2.2.1; omega)
              have t5 : decide (e < n) = true := decide_eq_true hlt
              have t6 : (e < n) = True := eq_true hlt
              have EF := Aside0.mk (show (od l0 pos : Int) = r1 ∧ ((kn + 1 : Nat) : Int) = r2 ∧ (0 : Int) = r3 from by
                have h := EE.out
                rw [if_pos (by have := FC.out.2.2.2.2.2.1; have := HE.out.1; omega), HE.out.1, hpos] at h
                simpa only [Prod.mk.injEq] using h)
              have HP := Aside0.mk (And.intro hlt hpos)
              clear hlt hpos
              go_wp2_with (first
                | ((with_reducible refine gate_dst (N := 51) rfl ?_); refine goesV_ (some 51) rfl rfl Try.func13 (by kernel_rfl) rfl rfl rfl #[.pointer (some ⟨gr, 0, none⟩)] (by simp [go_sem]) ?_; refine (next_bit gr A1 l1.length c1 kn l1 wr R.out (Kd.C_below HR1.out B.out) rfl BD.out.2.2.2.2.2.1 HBL.out HNE.out).mono ?_; rintro e w6 ⟨rfl, hS, hG⟩; refine ⟨_, rfl, ?_⟩; rw [HB.out.1, HB.out.2.1]; have R6 := Aside0.mk hS; have B6 := Aside0.mk (below_grown B.out hG GR.out B.out.size); have O6 := Aside0.mk (RI_grown O.out R.out (by decide) hG); have K6 := Aside0.mk (K.out.grown hG (fun e => blk_ne K.out R.out (by decide) (Option.some.inj e))); have hcc := (CN_at K6.out (show kn + 1 ≤ 16 from BD.out.2.2.2.2.2.2)).trans (congrArg (fun n : Nat => some (Value.int .i64 (n : Int))) FC.out.2.2.1); obtain ⟨ad', e', hod⟩ := ord_cell HOL.out.1.symm HOL.out.2 O6.out (show pos < no by have := BD.out.2.2.2.2.1; have := HP.out; omega); cases e'; clear hS hG))
              go_ret3
              obtain ⟨e1, e2, e3⟩ := EF.out
              rw [← e1, ← e2, ← e3]
              exact ⟨by simp, B6.out⟩
            · have t3 : decide ((e : Int) < (n : Int)) = false := decide_eq_false (by omega)
              have t5 : decide (e < n) = false := decide_eq_false hlt
              have t6 : (e < n) = False := eq_false hlt
              have y2 : wrap64 ((s : Int) + (n : Int)) = ((s + n : Nat) : Int) := w_add BS.out.1 BS.out.2.1
              have y3 : wrap64 ((f : Int) + (n : Int)) = ((f + n : Nat) : Int) := w_add BD.out.2.2.1 BS.out.2.1
              have hge : f + n ≤ d := ge_of FC.out.2.2.2.2.2.1 HE.out.1 hlt
              by_cases hsn : s + n = no
              · have t4 : (((s + n : Nat) : Int) == (no : Int)) = true := by rw [hsn]; simp
                have EF := Aside0.mk (show (0 : Int) = r1 ∧ (0 : Int) = r2 ∧ (4 : Int) = r3 from by
                  have h := EE.out
                  rw [if_neg (Nat.not_lt.2 hge), if_pos (hsn.trans NO.out.1)] at h
                  simpa only [Prod.mk.injEq] using h)
                clear hsn hge hlt
                go_wp2_with (first
                  | ((with_reducible refine gate_dst (N := 51) rfl ?_); refine goesV_ (some 51) rfl rfl Try.func13 (by kernel_rfl) rfl rfl rfl #[.pointer (some ⟨gr, 0, none⟩)] (by simp [go_sem]) ?_; refine (next_bit gr A1 l1.length c1 kn l1 wr R.out (Kd.C_below HR1.out B.out) rfl BD.out.2.2.2.2.2.1 HBL.out HNE.out).mono ?_; rintro e w6 ⟨rfl, hS, hG⟩; refine ⟨_, rfl, ?_⟩; rw [HB.out.1, HB.out.2.1]; have R6 := Aside0.mk hS; have B6 := Aside0.mk (below_grown B.out hG GR.out B.out.size); have O6 := Aside0.mk (RI_grown O.out R.out (by decide) hG); have K6 := Aside0.mk (K.out.grown hG (fun e => blk_ne K.out R.out (by decide) (Option.some.inj e))); have hcc := (CN_at K6.out (show kn + 1 ≤ 16 from BD.out.2.2.2.2.2.2)).trans (congrArg (fun n : Nat => some (Value.int .i64 (n : Int))) FC.out.2.2.1); clear hS hG))
                go_ret3
                obtain ⟨e1, e2, e3⟩ := EF.out
                rw [← e1, ← e2, ← e3]
                exact ⟨rfl, B6.out⟩
              · have t4 : (((s + n : Nat) : Int) == (no : Int)) = false := by
                  rw [beq_eq_false_iff_ne]; exact fun h' => hsn (Int.ofNat.inj h')
                have EF := Aside0.mk (show sdm l0 q (kn + 1 + 1) d (l1.drop (kn + 1)) = (r1, r2, r3) from by
                  have h := EE.out
                  rw [if_neg (Nat.not_lt.2 hge), if_neg (fun h' => hsn (h'.trans NO.out.1.symm))] at h
                  exact h)
                have HGE := Aside0.mk hge
                clear hsn hge hlt
                go_wp2_with (first
                  | ((with_reducible refine gate_dst (N := 51) rfl ?_); refine goesV_ (some 51) rfl rfl Try.func13 (by kernel_rfl) rfl rfl rfl #[.pointer (some ⟨gr, 0, none⟩)] (by simp [go_sem]) ?_; refine (next_bit gr A1 l1.length c1 kn l1 wr R.out (Kd.C_below HR1.out B.out) rfl BD.out.2.2.2.2.2.1 HBL.out HNE.out).mono ?_; rintro e w6 ⟨rfl, hS, hG⟩; refine ⟨_, rfl, ?_⟩; rw [HB.out.1, HB.out.2.1]; have R6 := Aside0.mk hS; have B6 := Aside0.mk (below_grown B.out hG GR.out B.out.size); have O6 := Aside0.mk (RI_grown O.out R.out (by decide) hG); have K6 := Aside0.mk (K.out.grown hG (fun e => blk_ne K.out R.out (by decide) (Option.some.inj e))); have hcc := (CN_at K6.out (show kn + 1 ≤ 16 from BD.out.2.2.2.2.2.2)).trans (congrArg (fun n : Nat => some (Value.int .i64 (n : Int))) FC.out.2.2.1); clear hS hG))
                go_roundg q
                case measure => exact Nat.lt_succ_self _
                case rel =>
                  refine ⟨wrap64 ((kn : Int) + 1 + 1), (d : Int), ((f + n : Nat) : Int), ((s + n : Nat) : Int), kn + 1, d, rfl, rfl, rfl, rfl, ⟨?_⟩, R6, K6, O6, B6⟩
                  refine ⟨w_kk BD.out.2.2.2.2.2.2, k_q HA.out.2.1, rfl, ?_, ?_, ?_, ?_, BD.out.2.2.2.2.2.1, EF.out⟩
                  · rw [FC.out.2.1, FC.out.2.2.1]
                  · rw [FC.out.2.2.2.2.1]
                  · rw [FC.out.2.1, FC.out.2.2.1]; exact HGE.out
                  · exact FC.out.2.2.2.2.2.2
end Go.Proofs.Ytlegmefnaghloaa.Hd
