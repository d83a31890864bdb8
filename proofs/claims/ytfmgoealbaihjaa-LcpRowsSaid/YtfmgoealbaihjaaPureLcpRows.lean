/- lcp: the plain law of LcpRows. -/
import Derived.Test.YtfmgoealbaihjaaPureLcp
import Derived.Test.YtfmgoealbaihjaaPx6
set_option linter.unusedVariables false
set_option linter.unusedSimpArgs false
set_option linter.unusedSectionVars false
namespace Go.Proofs.Ytfmgoealbaihjaa.Pure
open Go Go.RowKit Go.Proofs.Ytfmgoealbaihjaa.P Go.Proofs.YtfmgoealbaihjaaW.PrintWords Go.Proofs.YtfmgoealbaihjaaW.PrintLast Go.Proofs.YtfmgoealbaihjaaW.PrintMore Go.Proofs.Ytfmgoealbaihjaa.Com Go.Proofs.Ytfmgoealbaihjaa.Hd Go.Proofs.Ytfmgoealbaihjaa.Hw Go.Proofs.Ytfmgoealbaihjaa.Cn Go.Proofs.Ytfmgoealbaihjaa.Sais Go.Proofs.Ytfmgoealbaihjaa.Bk Go.Proofs.Ytfmgoealbaihjaa.Lc
theorem nb1_of {s : ByteArray} {l : List Nat} (hl : l.length = s.size) (hm : ∀ j, j < l.length → l.getD j 0 < s.size) {k : Nat} (hk : k < s.size) (h0 : 0 < k) : ofV s ((l.getD (k - 1) 0 : Nat) : Int) ((l.getD k 0 : Nat) : Int) = (nb1 (nb s) l k : Int) := by
  have h1 := hm (k - 1) (by omega)
  have h2 := hm k (by omega)
  unfold ofV nb1
  rw [if_neg (by omega), if_neg (by omega), Int.toNat_natCast, Int.toNat_natCast]
theorem rows_l0 {s : ByteArray} (hs : s.size ≤ 1073741824) {a : List Int} (ha : a.length ≤ 400) (d : Nat) : ∀ j, j + d = s.size → Ev (fun k => gladstonelaw20_LcpRows.l0 k s a (iN (srtN (nb s))) (rowN s) (j : Int)) true := by
  have h := srtN_ok (nb s)
  have hl : (srtN (nb s)).length = s.size := by rw [h.p.len, nb_length]
  have hm : ∀ j, j < (srtN (nb s)).length → (srtN (nb s)).getD j 0 < s.size := fun j hj => by
    have := h.p.lt ((srtN (nb s)).getD j 0) (by rw [Lc.gD hj]; exact List.getElem_mem _)
    rw [nb_length] at this; exact this
  have hrow : (rowN s).length = s.size := tabn_length _ _
  induction d with
  | zero =>
    intro j hj
    have hi := ints_ev a (iN (srtN (nb s))) (by omega)
    refine Ev.step (fun k => by simp only [gladstonelaw20_LcpRows.l0]; rfl) ?_
    refine Ev.ifn (by rw [hrow]; omega) ?_
    refine Ev.bind (f := fun k t => _) hi ?_
    by_cases e : a = iN (srtN (nb s))
    · refine Ev.ifp (decide_eq_true e) ?_
      exact Ev.bind (f := fun _ t => some t) awake_ev (Ev.now _)
    · refine Ev.ifn (by rw [decide_eq_true_eq]; exact e) ?_
      refine Ev.bind (f := fun k t => _) (row_no hs (by omega) e) ?_
      refine Ev.ifp (by simp) ?_
      exact Ev.bind (f := fun _ t => some t) awake_ev (Ev.now _)
  | succ d ih =>
    intro j hj
    have hrd : rd (rowN s) (j : Int) = (nb1 (nb s) (srtN (nb s)) j : Int) := by unfold rowN; rw [rd_nat, tabn_getD (by omega)]
    have hnx := ih (j + 1) (by omega)
    have hof := fun h0 : 0 < j => nb1_of hl hm (k := j) (by omega) h0
    refine Ev.step (fun k => by simp only [gladstonelaw20_LcpRows.l0]; rfl) ?_
    refine Ev.ifp (by rw [hrow]; omega) ?_
    rw [hrd, w64 (x := (j : Int) + 1) (by omega) (by omega)]
    by_cases h0 : 0 < j
    · refine Ev.ifp (by omega) ?_
      rw [w64 (x := (j : Int) - 1) (by omega) (by omega), show (j : Int) - 1 = ((j - 1 : Nat) : Int) from by omega, iN_len]
      refine Ev.ifp (by omega) (Ev.ifp (by omega) (Ev.ifp (by omega) (Ev.ifp (by omega) ?_)))
      rw [rd_nat, rd_nat, iN_getD, iN_getD]
      have hr := rof_ev hs (((srtN (nb s)).getD (j - 1) 0 : Nat) : Int) (((srtN (nb s)).getD j 0 : Nat) : Int)
      rw [hof h0] at hr
      refine Ev.bind (f := fun k t => _) hr ?_
      exact Ev.ifp (by rfl) hnx
    · refine Ev.ifn (by omega) (Ev.ifp (by omega) ?_)
      refine Ev.ifp ?_ hnx
      unfold nb1
      rw [if_pos (by omega)]
      rfl
theorem LcpRows (s : ByteArray) (ws : s.size ≤ 140737488351232) (a : List Int) (y1 : a.length * 8 ≤ 140737488351232) (hw : ∀ x ∈ a, (Lit.int .i64 x).wf = true) (x y : Int) : ∃ k, gladstonelaw20_LcpRows.f k s a x y = some true := by
  refine Ev.rounds ?_
  unfold gladstonelaw20_LcpRows.f
  have big : Ev (fun k => gladstonelaw20_LcpRows.j0 k s a true x y) true := by
    refine Ev.step (fun k => by simp only [gladstonelaw20_LcpRows.j0]; rfl) ?_
    exact Ev.ifp (by trivial) (Ev.bind (f := fun _ t => some t) awake_ev (Ev.now _))
  by_cases h1 : (s.size : Int) > 400
  · exact Ev.ifp h1 big
  · refine Ev.ifn h1 ?_
    by_cases h2 : (a.length : Int) > 400
    · rw [decide_eq_true h2]; exact big
    · rw [decide_eq_false h2]
      have hs : s.size ≤ 1073741824 := by omega
      refine Ev.step (fun k => by simp only [gladstonelaw20_LcpRows.j0]; rfl) ?_
      refine Ev.ifn (by simp) ?_
      refine Ev.bind (f := fun k t => _) (sort_ev hs) ?_
      refine Ev.bind (f := fun k t => _) (row_ev hs) ?_
      refine Ev.ifp (by unfold rowN; rw [tabn_length]) ?_
      rw [of_eq hs]
      simp only [Option.bind_some]
      refine Ev.bind (f := fun k t => _) (rof_ev hs x y) ?_
      rw [show (ofV s x y != ofV s x y) = false from bne_eq_false_iff_eq.mpr rfl]
      refine Ev.step (fun k => by simp only [gladstonelaw20_LcpRows.j1]; rfl) ?_
      refine Ev.ifn (by simp) ?_
      exact rows_l0 hs (by omega) s.size 0 (by omega)
end Go.Proofs.Ytfmgoealbaihjaa.Pure
