/- suffix: same, walked by hand. -/
import Derived.Test.YtdifgiceallpiaaDoorZHSa3
set_option linter.unusedVariables false
set_option linter.unusedSimpArgs false
set_option linter.unusedSectionVars false
namespace Go.Proofs.YtdifgiceallpiaaDoor.Sais
section
variable {n : Nat} {s : Nat → Nat} {ls : Nat → Bool}
/-- Where two words are after so many equal letters. -/
def VW (n : Nat) (s : Nat → Nat) (ls : Nat → Bool) (j i : Nat) : List Nat := if j = 0 then W n s ls i else V n s ls i
theorem sm_diff {j a b : Nat} (h : lt_ s ls a ≠ lt_ s ls b) : VW n s ls j a ≠ VW n s ls j b := by
  intro e
  unfold VW at e
  split at e
  · obtain ⟨t, ht⟩ := W_head (n := n) (s := s) (ls := ls) a
    obtain ⟨u, hu⟩ := W_head (n := n) (s := s) (ls := ls) b
    rw [ht, hu] at e
    injection e with e _
    exact h e
  · obtain ⟨t, ht⟩ := V_head (n := n) (s := s) (ls := ls) a
    obtain ⟨u, hu⟩ := V_head (n := n) (s := s) (ls := ls) b
    rw [ht, hu] at e
    injection e with e _
    exact h e
theorem sm_tn {j a b : Nat} (hj : j ≠ 0) (h : lt_ s ls a = lt_ s ls b) (ha : tn ls a = true) (hb : tn ls b = true) : VW n s ls j a = VW n s ls j b := by
  unfold VW
  rw [if_neg hj, if_neg hj, V_tn ha, V_tn hb, h]
theorem sm_next (hx : Txt n s ls) {j a b : Nat} (ha : a < n) (hb : b < n) (hab : a ≠ b) (h : lt_ s ls a = lt_ s ls b) (ta : j ≠ 0 → tn ls a = false) (tb : j ≠ 0 → tn ls b = false) :
    a + 1 < n ∧ b + 1 < n ∧ (VW n s ls j a = VW n s ls j b ↔ VW n s ls (j + 1) (a + 1) = VW n s ls (j + 1) (b + 1)) := by
  have hl : ∀ x y, x < n → y < n → lt_ s ls x = lt_ s ls y → x ≠ y → x + 1 < n := by
    intro x y hx1 hy1 e hne
    rcases Nat.lt_or_ge (x + 1) n with h1 | h1
    · exact h1
    · have ex : x = n - 1 := by omega
      rcases Nat.lt_or_ge (y + 1) n with h2 | h2
      · have := lt_big hx h2
        rw [← e, ex, lt_last hx] at this
        omega
      · omega
  have h1 := hl a b ha hb h hab
  have h2 := hl b a hb ha h.symm hab.symm
  refine ⟨h1, h2, ?_⟩
  have e1 : VW n s ls j a = W n s ls a := by
    unfold VW
    by_cases hj : j = 0
    · rw [if_pos hj]
    · rw [if_neg hj, V_not (ta hj)]
  have e2 : VW n s ls j b = W n s ls b := by
    unfold VW
    by_cases hj : j = 0
    · rw [if_pos hj]
    · rw [if_neg hj, V_not (tb hj)]
  rw [e1, e2, W_step h1, W_step h2, h]
  unfold VW
  rw [if_neg (Nat.succ_ne_zero j), if_neg (Nat.succ_ne_zero j)]
  constructor
  · intro e; injection e
  · intro e; rw [e]
theorem tn_same {a b : Nat} (h0 : a ≠ 0) (h1 : b ≠ 0) (h : lt_ s ls a = lt_ s ls b) (hp : lt_ s ls (a - 1) = lt_ s ls (b - 1)) : tn ls a = tn ls b := by
  have e1 := (lt_eq h).2
  have e2 := (lt_eq hp).2
  unfold tn
  rw [e1, e2, decide_eq_true (show 0 < a by omega), decide_eq_true (show 0 < b by omega)]
end
end Go.Proofs.YtdifgiceallpiaaDoor.Sais
namespace Go.Proofs.YtdifgiceallpiaaDoor.Hd
open Go Go.RowKit Go.Proofs.YtdifgiceallpiaaDoorW.PrintWords Go.Proofs.YtdifgiceallpiaaDoorW.PrintLast Go.Proofs.YtdifgiceallpiaaDoorW.PrintMore Go.Proofs.YtdifgiceallpiaaDoor.Hw Go.Proofs.YtdifgiceallpiaaDoor.Com Go.Proofs.YtdifgiceallpiaaDoor.Cn Go.Proofs.YtdifgiceallpiaaDoor.P Go.Proofs.YtdifgiceallpiaaDoor.Sais
attribute [local go_sem] max2_int min2_int max_two min_two max_three min_three max_four min_four
section
variable (gx : Nat) (A : Option Addr) (c0 gl gz n m : Nat) (s : Nat → Nat) (ls : Nat → Bool) (w : World)
set_option maxHeartbeats 16000000 in
set_option maxRecDepth 100000 in
theorem same_ok (i k : Nat) (h : Ind w gx A c0 gl gz n m s ls) (hx : Txt n s ls) (hi : i < n) (hk : k < n) (hik : i ≠ k) :
    Calls Tryd.prog 83 #[.pointer (some ⟨gx, 0, none⟩), .int .i64 (i : Int), .int .i64 (k : Int)] w fun e w' => e = .returned (.bool (decide (W n s ls i = W n s ls k))) ∧ Below w.heap.size w w' := by
  obtain ⟨ad, hA, _⟩ := h.cs hi
  subst hA
  have HC := Aside0.mk (show ∀ i, i < n → w.cell? (ad.add i) = some (.int .i64 (s i : Int)) from fun i hi => by
    obtain ⟨ad2, h1, h2⟩ := h.cs hi
    cases h1
    exact h2)
  have H := Aside0.mk h
  have HX := Aside0.mk hx
  have HI := Aside0.mk (And.intro hi (And.intro hk (And.intro hik h.n1)))
  clear h hx hi hk hik
  go_enter Tryd.func83, Tryd.ntmps83
  go_wp2
  go_loopg [7] n (fun q v7 w' => ∃ (L : Int) (j : Nat), v7 = .int .i64 L ∧ Aside0 (L = (j : Int) ∧ j + q = n ∧ i + j < n ∧ k + j < n ∧ (j ≠ 0 → lt_ s ls (i + j - 1) = lt_ s ls (k + j - 1)) ∧ (W n s ls i = W n s ls k ↔ VW n s ls j (i + j) = VW n s ls j (k + j))) ∧ Aside0 (Below w.heap.size w w'))
  case atStart => exact ⟨0, 0, rfl, ⟨rfl, by omega, by have := HI.out; omega, by have := HI.out; omega, by simp, Iff.rfl⟩, ⟨Below.refl _ _⟩⟩
  case round =>
    obtain ⟨L, j, rfl, HL, B⟩ := hrel
    cases gk with
    | zero => have := HL.out; omega
    | succ q =>
      obtain rfl : L = (j : Int) := HL.out.1
      obtain ⟨a, ha⟩ : ∃ a, i + j = a := ⟨_, rfl⟩
      obtain ⟨b, hb⟩ : ∃ b, k + j = b := ⟨_, rfl⟩
      have han : a < n := by have := HL.out; omega
      have hbn : b < n := by have := HL.out; omega
      have e1 : wrap64 ((i : Int) + (j : Int)) = (a : Int) := by have := HI.out; rw [w64 (by omega) (by omega)]; omega
      have e2 : wrap64 ((k : Int) + (j : Int)) = (b : Int) := by have := HI.out; rw [w64 (by omega) (by omega)]; omega
      have e3 : wrap64 ((j : Int) + 1) = ((j + 1 : Nat) : Int) := by have := HI.out; have := HL.out; rw [w64 (by omega) (by omega)]; omega
      have e4 : IntKind.i64.wrap ((i : Int) + (j : Int)) = (a : Int) := (i64_w _).trans e1
      have e5 : IntKind.i64.wrap ((k : Int) + (j : Int)) = (b : Int) := (i64_w _).trans e2
      have IH := Aside0.mk (H.out.below B.out)
      have k0 := IH.out.k0
      have k1 := IH.out.k1
      have hc := HC.out a han
      have k2 := (B.out.cell (World.block_lt_of_cell? w _ hc)).trans hc
      have hd := HC.out b hbn
      have k3 := (B.out.cell (World.block_lt_of_cell? w _ hd)).trans hd
      have k4 := IH.out.cl han
      have k5 := IH.out.cl hbn
      have p1 : ((a : Int) < (n : Int)) = True := eq_true (by omega)
      have p2 : (a < n) = True := eq_true han
      have p3 : ((b : Int) < (n : Int)) = True := eq_true (by omega)
      have p4 : (b < n) = True := eq_true hbn
      have HAB := Aside0.mk (show i + j = a ∧ k + j = b ∧ a < n ∧ b < n ∧ a ≠ b from ⟨ha, hb, han, hbn, by have := HI.out; omega⟩)
      have hW := HL.out.2.2.2.2.2
      have hP := HL.out.2.2.2.2.1
      rw [ha, hb] at hW hP
      have HW := Aside0.mk (And.intro hW hP)
      obtain ⟨sa, hsa⟩ : ∃ sa, s a = sa := ⟨_, rfl⟩
      obtain ⟨sb, hsb⟩ : ∃ sb, s b = sb := ⟨_, rfl⟩
      obtain ⟨la, hla⟩ : ∃ la, ls a = la := ⟨_, rfl⟩
      obtain ⟨lb, hlb⟩ : ∃ lb, ls b = lb := ⟨_, rfl⟩
      rw [hsa] at k2
      rw [hsb] at k3
      rw [hla] at k4
      rw [hlb] at k5
      clear hc hd ha hb han hbn hW hP
      by_cases g1 : sa = sb
      case neg =>
        have t1 : ((sa : Int) != (sb : Int)) = true := bne_iff_ne.2 (by omega)
        have t2 : (sa != sb) = true := bne_iff_ne.2 g1
        have HR := Aside0.mk (show decide (W n s ls i = W n s ls k) = false from decide_eq_false (fun e => sm_diff (n := n) (j := j) (s := s) (ls := ls) (a := a) (b := b) (fun e2 => g1 (by rw [← hsa, ← hsb]; exact (lt_eq e2).1)) (HW.out.1.1 e)))
        clear g1 hsa hsb hla hlb
        go_wp2
        go_quiet (fail)
        go_wp2
        go_ret
        rw [HR.out]
        exact ⟨rfl, pw_below_drewN B.out nq⟩
      subst g1
      have t1 : ((sa : Int) != (sa : Int)) = false := by simp
      by_cases g2 : la = lb
      case neg =>
        have HR := Aside0.mk (show decide (W n s ls i = W n s ls k) = false from decide_eq_false (fun e => sm_diff (n := n) (j := j) (s := s) (ls := ls) (a := a) (b := b) (fun e2 => g2 (by rw [← hla, ← hlb]; exact (lt_eq e2).2)) (HW.out.1.1 e)))
        obtain rfl : lb = !la := by cases la <;> cases lb <;> first | rfl | exact absurd rfl g2
        clear g2 hsa hsb hla hlb
        cases la with
        | true =>
          simp only [Bool.not_true] at k5
          go_wp2
          go_quiet (fail)
          go_wp2
          go_ret
          rw [HR.out]
          exact ⟨rfl, pw_below_drewN B.out nq⟩
        | false =>
          simp only [Bool.not_false] at k5
          go_wp2
          go_quiet (fail)
          go_wp2
          go_ret
          rw [HR.out]
          exact ⟨rfl, pw_below_drewN B.out nq⟩
      subst g2
      have t2 : (la != la) = false := by simp
      have HE := Aside0.mk (show lt_ s ls a = lt_ s ls b from lt_same (hsa.trans hsb.symm) (hla.trans hlb.symm))
      clear hsa hsb hla hlb
      go_wp2
      go_quiet (fail)
      obtain ⟨w1, hw1⟩ : ∃ w1, wr.drewN nq = w1 := ⟨_, rfl⟩
      have B1 := Aside0.mk (pw_below_drewN B.out nq)
      rw [hw1] at B1
      rw [hw1]
      clear hw1 k0 k1 k2 k3 k4 k5 IH B
      have I1 := Aside0.mk (H.out.below B1.out)
      by_cases g3 : j = 0
      · have t3 : decide ((0 : Int) < (j : Int)) = false := decide_eq_false (by omega)
        have t4 : decide (0 < j) = false := decide_eq_false (by omega)
        have HJ := Aside0.mk g3
        clear g3
        go_wp2
        go_roundg q
        case measure => omega
        case rel =>
          have hn := sm_next HX.out (j := j) HAB.out.2.2.1 HAB.out.2.2.2.1 HAB.out.2.2.2.2 HE.out (fun h => absurd HJ.out h) (fun h => absurd HJ.out h)
          exact ⟨((j + 1 : Nat) : Int), j + 1, by simp only [e3], ⟨rfl, by have := HL.out; omega, by have := HAB.out; omega, by have := HAB.out; omega, fun _ => by have := HAB.out; rw [show i + (j + 1) - 1 = a from by omega, show k + (j + 1) - 1 = b from by omega]; exact HE.out, by
            rw [show i + (j + 1) = a + 1 from by have := HAB.out; omega, show k + (j + 1) = b + 1 from by have := HAB.out; omega]
            exact HW.out.1.trans hn.2.2⟩, B1⟩
      · have t3 : decide ((0 : Int) < (j : Int)) = true := decide_eq_true (by omega)
        have t4 : decide (0 < j) = true := decide_eq_true (by omega)
        have ht : tn ls a = tn ls b := tn_same (by have := HAB.out; omega) (by have := HAB.out; omega) HE.out (HW.out.2 g3)
        have HJ := Aside0.mk g3
        clear g3
        cases hta : tn ls a with
        | true =>
          rw [hta] at ht
          have HT := Aside0.mk (And.intro hta ht.symm)
          have HR := Aside0.mk (show decide (W n s ls i = W n s ls k) = true from decide_eq_true (HW.out.1.2 (sm_tn HJ.out HE.out hta ht.symm)))
          clear hta ht
          go_wp2_with (first
            | (go_at_call 80; refine (turns_ok gx (some ad) c0 gl gz n m s ls _ a I1.out HAB.out.2.2.1).mono ?_; rintro e w2 ⟨rfl, hB⟩; rw [HT.out.1]; have B2 := Aside0.mk (below_step B1.out hB); have I2 := Aside0.mk (H.out.below B2.out); clear hB I1 B1)
            | (go_at_call 80; refine (turns_ok gx (some ad) c0 gl gz n m s ls _ a I2.out HAB.out.2.2.1).mono ?_; rintro e w3 ⟨rfl, hB⟩; rw [HT.out.1]; have B3 := Aside0.mk (below_step B2.out hB); have I3 := Aside0.mk (H.out.below B3.out); clear hB I2 B2)
            | (go_at_call 80; refine (turns_ok gx (some ad) c0 gl gz n m s ls _ b I3.out HAB.out.2.2.2.1).mono ?_; rintro e w4 ⟨rfl, hB⟩; rw [HT.out.2]; have B4 := Aside0.mk (below_step B3.out hB); clear hB))
          go_ret
          rw [HR.out]
          exact ⟨rfl, B4.out⟩
        | false =>
          rw [hta] at ht
          have HT := Aside0.mk (And.intro hta ht.symm)
          clear hta ht
          go_wp2_with (first
            | (go_at_call 80; refine (turns_ok gx (some ad) c0 gl gz n m s ls _ a I1.out HAB.out.2.2.1).mono ?_; rintro e w2 ⟨rfl, hB⟩; rw [HT.out.1]; have B2 := Aside0.mk (below_step B1.out hB); have I2 := Aside0.mk (H.out.below B2.out); clear hB I1 B1)
            | (go_at_call 80; refine (turns_ok gx (some ad) c0 gl gz n m s ls _ b I2.out HAB.out.2.2.2.1).mono ?_; rintro e w3 ⟨rfl, hB⟩; rw [HT.out.2]; have B3 := Aside0.mk (below_step B2.out hB); clear hB I2 B2))
          go_roundg q
          case measure => omega
          case rel =>
            have hn := sm_next HX.out (j := j) HAB.out.2.2.1 HAB.out.2.2.2.1 HAB.out.2.2.2.2 HE.out (fun _ => HT.out.1) (fun _ => HT.out.2)
            exact ⟨((j + 1 : Nat) : Int), j + 1, by simp only [e3], ⟨rfl, by have := HL.out; omega, by have := HAB.out; omega, by have := HAB.out; omega, fun _ => by have := HAB.out; rw [show i + (j + 1) - 1 = a from by omega, show k + (j + 1) - 1 = b from by omega]; exact HE.out, by
              rw [show i + (j + 1) = a + 1 from by have := HAB.out; omega, show k + (j + 1) = b + 1 from by have := HAB.out; omega]
              exact HW.out.1.trans hn.2.2⟩, B3⟩
end
end Go.Proofs.YtdifgiceallpiaaDoor.Hd
