/- lcp: the plain law of LcpLeast. -/
import Derived.Test.YtfmgoealbaihjaaPureLcp
import Derived.Test.YtfmgoealbaihjaaPx7
set_option linter.unusedVariables false
set_option linter.unusedSimpArgs false
set_option linter.unusedSectionVars false
namespace Go.Proofs.Ytfmgoealbaihjaa.Pure
open Go Go.RowKit Go.Proofs.Ytfmgoealbaihjaa.P Go.Proofs.YtfmgoealbaihjaaW.PrintWords Go.Proofs.YtfmgoealbaihjaaW.PrintLast Go.Proofs.YtfmgoealbaihjaaW.PrintMore Go.Proofs.Ytfmgoealbaihjaa.Com Go.Proofs.Ytfmgoealbaihjaa.Hd Go.Proofs.Ytfmgoealbaihjaa.Hw Go.Proofs.Ytfmgoealbaihjaa.Cn Go.Proofs.Ytfmgoealbaihjaa.Sais Go.Proofs.Ytfmgoealbaihjaa.Bk Go.Proofs.Ytfmgoealbaihjaa.Lc
theorem mn_nat (a b : Nat) : mn (a : Int) (b : Int) = ((min a b : Nat) : Int) := by unfold mn; split <;> omega
theorem least_l0 {s : ByteArray} (hs : s.size ≤ 1073741824) {a b : Nat} (hab : a < b) (hb : b < s.size) {r : Nat} (hr : r = cp ((nb s).drop ((srtN (nb s)).getD a 0)) ((nb s).drop ((srtN (nb s)).getD b 0))) (d : Nat) : ∀ i n : Nat, i + d = b + 1 → 0 < i → least (nb s) (srtN (nb s)) i d n = r →
    Ev (fun k => gladstonelaw20_LcpLeast.l0 k s (iN (srtN (nb s))) (rowN s) (a : Int) (b : Int) (n : Int) (i : Int)) true := by
  have h := srtN_ok (nb s)
  have hl : (srtN (nb s)).length = s.size := by rw [h.p.len, nb_length]
  have hm : ∀ j, j < (srtN (nb s)).length → (srtN (nb s)).getD j 0 < s.size := fun j hj => by
    have := h.p.lt ((srtN (nb s)).getD j 0) (by rw [Lc.gD hj]; exact List.getElem_mem _)
    rw [nb_length] at this; exact this
  induction d with
  | zero =>
    intro i n hi _ hn
    have h1 := hm a (by omega)
    have h2 := hm b (by omega)
    refine Ev.step (fun k => by simp only [gladstonelaw20_LcpLeast.l0]; rfl) ?_
    rw [iN_len, rd_nat (iN (srtN (nb s))) a, rd_nat (iN (srtN (nb s))) b, iN_getD, iN_getD, of_eq hs]
    refine Ev.ifn (by omega) (Ev.ifp (by omega) (Ev.ifp (by omega) (Ev.ifp (by omega) (Ev.ifp (by omega) ?_))))
    simp only [Option.bind_some]
    refine Ev.ifp ?_ (Ev.bind (f := fun _ t => some t) awake_ev (Ev.now _))
    unfold ofV
    rw [if_neg (by omega), Int.toNat_natCast, Int.toNat_natCast, ← hr, ← hn]
    rfl
  | succ d ih =>
    intro i n hi h0 hn
    have hrd : rd (rowN s) (i : Int) = (nb1 (nb s) (srtN (nb s)) i : Int) := by unfold rowN; rw [rd_nat, tabn_getD (by omega)]
    have := ih (i + 1) (min n (nb1 (nb s) (srtN (nb s)) i)) (by omega) (by omega) hn
    refine Ev.step (fun k => by simp only [gladstonelaw20_LcpLeast.l0]; rfl) ?_
    rw [hrd, mn_nat, w64 (by omega) (by omega)]
    exact Ev.ifp (by omega) (Ev.ifp (by omega) (Ev.ifp (by unfold rowN; rw [tabn_length]; omega) this))
theorem least_j1 {s : ByteArray} (hs : s.size ≤ 1073741824) {a b : Nat} (hab : a ≤ b) (hb : b < s.size) : Ev (fun k => gladstonelaw20_LcpLeast.j1 k s (iN (srtN (nb s))) (rowN s) (a : Int) (b : Int)) true := by
  have h := srtN_ok (nb s)
  have hl : (srtN (nb s)).length = s.size := by rw [h.p.len, nb_length]
  refine Ev.step (fun k => by simp only [gladstonelaw20_LcpLeast.j1]; rfl) ?_
  by_cases e : a = b
  · exact Ev.ifp (by omega) (Ev.bind (f := fun _ t => some t) awake_ev (Ev.now _))
  · refine Ev.ifn (by omega) ?_
    rw [w64 (by omega) (by omega)]
    refine least_l0 hs (a := a) (b := b) (by omega) hb rfl (b - a) (a + 1) s.size (by omega) (by omega) ?_
    obtain ⟨d, hd⟩ : ∃ d, b - a = d + 1 := ⟨b - a - 1, by omega⟩
    rw [hd]
    have hq := least_eq (x := nb s) (a := srtN (nb s)) h.o d (a + 2) a (by omega) (by omega) (by omega)
    rw [show a + 2 + d - 1 = b from by omega, show a + 2 - 1 = a + 1 from rfl] at hq
    unfold least
    have hn1 : nb1 (nb s) (srtN (nb s)) (a + 1) = cp ((nb s).drop ((srtN (nb s)).getD a 0)) ((nb s).drop ((srtN (nb s)).getD (a + 1) 0)) := by
      unfold nb1; rw [if_neg (by omega), Nat.add_sub_cancel]
    have hle := cp_le ((nb s).drop ((srtN (nb s)).getD a 0)) ((nb s).drop ((srtN (nb s)).getD (a + 1) 0))
    rw [List.length_drop, nb_length] at hle
    rw [hn1, Nat.min_eq_right (by omega)]
    exact hq
theorem u8_in {x : Int} (h : (Lit.int .u8 x).wf = true) : 0 ≤ x ∧ x < 256 := by
  simp [Lit.wf, IntKind.min, IntKind.max, IntKind.signed, IntKind.bits] at h
  omega
theorem LcpLeast : gladstonelaw20_LcpLeast.Pure := by
  intro s i k _ hi hk
  refine Ev.rounds ?_
  have big : Ev (fun f => gladstonelaw20_LcpLeast.j0 f s i k true) true := by
    refine Ev.step (fun k => by simp only [gladstonelaw20_LcpLeast.j0]; rfl) ?_
    exact Ev.ifp (by trivial) (Ev.bind (f := fun _ t => some t) awake_ev (Ev.now _))
  unfold gladstonelaw20_LcpLeast.f
  by_cases h1 : (s.size : Int) = 0
  · exact Ev.ifp h1 big
  · refine Ev.ifn h1 ?_
    by_cases h2 : (s.size : Int) > 300
    · rw [decide_eq_true h2]; exact big
    · rw [decide_eq_false h2]
      have hs : s.size ≤ 1073741824 := by omega
      have ri := u8_in hi
      have rk := u8_in hk
      obtain ⟨a, rfl⟩ : ∃ a : Nat, i = (a : Int) := ⟨i.toNat, by omega⟩
      obtain ⟨b, rfl⟩ : ∃ b : Nat, k = (b : Int) := ⟨k.toNat, by omega⟩
      have ea : Int.tmod (wrap64 (a : Int)) (s.size : Int) = ((a % s.size : Nat) : Int) := by rw [w64 (by omega) (by omega)]; rfl
      have eb : Int.tmod (wrap64 (b : Int)) (s.size : Int) = ((b % s.size : Nat) : Int) := by rw [w64 (by omega) (by omega)]; rfl
      have la := Nat.mod_lt a (show 0 < s.size by omega)
      have lb := Nat.mod_lt b (show 0 < s.size by omega)
      generalize a % s.size = x at ea la
      generalize b % s.size = y at eb lb
      refine Ev.step (fun k => by simp only [gladstonelaw20_LcpLeast.j0]; rfl) ?_
      rw [ea, eb]
      refine Ev.ifn (by simp) ?_
      refine Ev.bind (f := fun k t => _) (sort_ev hs) ?_
      refine Ev.bind (f := fun k t => _) (row_ev hs) ?_
      refine Ev.ifp (by unfold rowN; rw [tabn_length]) (Ev.ifn h1 ?_)
      by_cases hxy : y < x
      · exact Ev.ifp (by omega) (least_j1 hs (by omega) la)
      · exact Ev.ifn (by omega) (least_j1 hs (by omega) lb)
end Go.Proofs.Ytfmgoealbaihjaa.Pure
