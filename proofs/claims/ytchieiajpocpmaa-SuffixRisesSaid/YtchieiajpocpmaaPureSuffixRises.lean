/- suffix: the plain law of SuffixRises. -/
import Derived.Test.YtchieiajpocpmaaPureSufS
import Derived.Test.YtchieiajpocpmaaPureSufA
import Derived.Test.YtchieiajpocpmaaPx2
set_option linter.unusedVariables false
set_option linter.unusedSimpArgs false
set_option linter.unusedSectionVars false
namespace Go.Proofs.Ytchieiajpocpmaa.Pure
open Go Go.RowKit Go.Proofs.Ytchieiajpocpmaa.P Go.Proofs.YtchieiajpocpmaaW.PrintWords Go.Proofs.YtchieiajpocpmaaW.PrintLast Go.Proofs.Ytchieiajpocpmaa.Com Go.Proofs.Ytchieiajpocpmaa.Hd Go.Proofs.Ytchieiajpocpmaa.Hw Go.Proofs.Ytchieiajpocpmaa.Cn Go.Proofs.Ytchieiajpocpmaa.Sais
/-- Which places were met. -/
def met (l : List Nat) (n i : Nat) : List Bool := tabB n (fun p => decide (p ∈ l.take i))
theorem met_set {l : List Nat} {n i : Nat} (h : i < l.length) : (met l n i).set (l.getD i 0) true = met l n (i + 1) := by
  unfold met
  rw [tabB_set]
  refine tabB_congr (fun j hj => ?_)
  rw [List.take_add_one, List.getElem?_eq_getElem h, List.getD_eq_getElem?_getD, List.getElem?_eq_getElem h]
  simp only [Option.getD_some, Option.toList_some, List.mem_append, List.mem_singleton]
  by_cases e : j = l[i]
  · rw [if_pos e]; simp [e]
  · rw [if_neg e]; simp [e]
theorem rises_l0 {s : ByteArray} (hs : s.size ≤ 3000) {l : List Nat} (h : SrtOk (nb s) l) (d : Nat) : ∀ i, i + d = l.length → Ev (fun k => gladstonelaw19_SuffixRises.l0 k s (iN l) (met l s.size i) (i : Int)) true := by
  have hl : l.length = s.size := by rw [h.p.len, nb_length]
  induction d with
  | zero =>
    intro i hi
    refine Ev.step (f := fun k => (gladstonelaw19_awake.f k).bind fun t => some t) (fun k => ?_) (Ev.bind (f := fun _ t => some t) awake_ev (Ev.now _))
    simp only [gladstonelaw19_SuffixRises.l0]
    rw [if_neg (by rw [iN_len]; omega)]
  | succ d ih =>
    intro i hi
    have hil : i < l.length := by omega
    have hgm : ∀ j, j < l.length → l.getD j 0 < s.size := fun j hj => by
      have := h.p.lt (l.getD j 0) (by rw [List.getD_eq_getElem?_getD, List.getElem?_eq_getElem hj]; exact List.getElem_mem _)
      rw [nb_length] at this; exact this
    have hp := hgm i hil
    have hrd : rd (iN l) (i : Int) = ((l.getD i 0 : Nat) : Int) := by rw [rd_nat, iN_getD]
    have hset := met_set (n := s.size) hil
    have hno : l.getD i 0 ∉ l.take i := fun hm => by
      obtain ⟨j, hj, e⟩ := List.mem_iff_getElem.1 hm
      rw [List.length_take] at hj
      rw [List.getElem_take, List.getD_eq_getElem?_getD, List.getElem?_eq_getElem hil] at e
      have := (List.getElem_inj h.p.nd).1 (show l[j]'(by omega) = l[i] from e)
      omega
    have hpv : 0 < i → (nb s).drop (l.getD (i - 1) 0) < (nb s).drop (l.getD i 0) := fun h0 => by
      rw [List.getD_eq_getElem?_getD, List.getElem?_eq_getElem (show i - 1 < l.length by omega), List.getD_eq_getElem?_getD, List.getElem?_eq_getElem hil]
      exact List.pairwise_iff_getElem.1 h.o (i - 1) i (by omega) hil (by omega)
    have hq : 0 < i → l.getD (i - 1) 0 < s.size := fun h0 => hgm (i - 1) (by omega)
    have hrq : rd (iN l) ((i - 1 : Nat) : Int) = ((l.getD (i - 1) 0 : Nat) : Int) := by rw [rd_nat, iN_getD]
    generalize l.getD i 0 = p at hp hrd hset hno hpv
    generalize l.getD (i - 1) 0 = q at hpv hq hrq
    have hb : rdOf false (met l s.size i) (p : Int) = false := by
      unfold rdOf met
      rw [Int.toNat_natCast, tabB_getD hp]
      exact decide_eq_false hno
    refine Ev.step (f := fun k => gladstonelaw19_SuffixRises.l0 k s (iN l) (met l s.size (i + 1)) ((i + 1 : Nat) : Int)) (fun k => ?_) (ih (i + 1) (by omega))
    have hml : ((met l s.size i).length : Int) = (s.size : Int) := by unfold met; rw [tabB_length]
    simp only [gladstonelaw19_SuffixRises.l0]
    rw [hrd, iN_len, hml, hb, if_pos (by omega), if_pos (by omega), if_neg (by omega), if_neg (by omega), if_pos (by omega), if_pos (by omega), if_neg (by simp), Int.toNat_natCast, hset, w64 (x := (i : Int) + 1) (by omega) (by omega)]
    by_cases h0 : 0 < i
    · have := hpv h0
      have := hq h0
      rw [if_pos (by omega), w64 (x := (i : Int) - 1) (by omega) (by omega), show (i : Int) - 1 = ((i - 1 : Nat) : Int) from by omega, hrq, if_pos (by omega), if_pos (by omega), if_pos (by omega), if_pos (by omega), if_pos (by omega), Int.toNat_natCast, bl_drop, if_pos (decide_eq_true (hpv h0))]
      rfl
    · rw [if_neg (by omega)]
      rfl
theorem SuffixRises : gladstonelaw19_SuffixRises.Pure := by
  intro s _
  refine Ev.rounds ?_
  unfold gladstonelaw19_SuffixRises.f
  by_cases h1 : (s.size : Int) > 3000
  · exact Ev.ifp h1 (Ev.bind (f := fun _ t => some t) awake_ev (Ev.now _))
  · refine Ev.ifn h1 ?_
    have hs : s.size ≤ 3000 := by omega
    have h := srtN_ok (nb s)
    have hl : (srtN (nb s)).length = s.size := by rw [h.p.len, nb_length]
    have e : suffix_Sort.f s = some (iN (srtN (nb s))) := by unfold suffix_Sort.f; rw [if_pos (by omega)]
    generalize srtN (nb s) = l at h hl e
    rw [e]
    simp only [Option.bind_some]
    refine Ev.ifp (by rw [iN_len, hl]) ?_
    refine Ev.ifp (by omega) ?_
    refine Ev.ifp (by omega) ?_
    have := rises_l0 hs h l.length 0 (by omega)
    unfold met at this
    simp only [List.take_zero, List.not_mem_nil, decide_false] at this
    rw [← tabB_zero] at this
    rw [Int.toNat_natCast]
    exact this
end Go.Proofs.Ytchieiajpocpmaa.Pure
