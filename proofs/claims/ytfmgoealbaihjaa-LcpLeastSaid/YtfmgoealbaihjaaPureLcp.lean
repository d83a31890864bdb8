/- lcp: what Row and Of answer, plainly. -/
import Derived.Test.YtfmgoealbaihjaaPureLc
import Derived.Test.YtfmgoealbaihjaaPureSufS
import Derived.Test.YtfmgoealbaihjaaPureSuQ
import Derived.Test.YtfmgoealbaihjaaPureSufV
import Derived.Test.YtfmgoealbaihjaaHLc
import Derived.Test.YtfmgoealbaihjaaPx4
import Derived.Test.YtfmgoealbaihjaaPx5
set_option linter.unusedVariables false
set_option linter.unusedSimpArgs false
set_option linter.unusedSectionVars false
namespace Go.Proofs.Ytfmgoealbaihjaa.Pure
open Go Go.RowKit Go.Proofs.Ytfmgoealbaihjaa.P Go.Proofs.YtfmgoealbaihjaaW.PrintWords Go.Proofs.YtfmgoealbaihjaaW.PrintLast Go.Proofs.YtfmgoealbaihjaaW.PrintMore Go.Proofs.Ytfmgoealbaihjaa.Com Go.Proofs.Ytfmgoealbaihjaa.Hd Go.Proofs.Ytfmgoealbaihjaa.Hw Go.Proofs.Ytfmgoealbaihjaa.Cn Go.Proofs.Ytfmgoealbaihjaa.Sais Go.Proofs.Ytfmgoealbaihjaa.Bk Go.Proofs.Ytfmgoealbaihjaa.Lc
theorem vF_at {l : List Nat} (hn : l.Nodup) {j : Nat} (hj : j < l.length) : ∀ m, m ≤ l.length → l.length ≤ j + m → vF (iN l) (l.getD j 0) m = (j : Int) := by
  intro m
  induction m with
  | zero => intro _ h; omega
  | succ m ih =>
    intro h1 h2
    unfold vF
    rw [iN_len, rd_nat, iN_getD]
    obtain ⟨q, hq⟩ : ∃ q, l.length - 1 - m = q := ⟨_, rfl⟩
    rw [hq]
    by_cases e : q = j
    · rw [e, if_pos rfl]
    · rw [if_neg, ih (by omega) (by omega)]
      intro h
      have h : l.getD q 0 = l.getD j 0 := by omega
      rw [Lc.gD (by omega), Lc.gD hj] at h
      exact e ((List.getElem_inj hn).1 h)
/-- Of all neighbours. -/
def rowN (s : ByteArray) : List Int := tabn s.size (fun k => (nb1 (nb s) (srtN (nb s)) k : Int))
theorem cp_sym (x : List Nat) (i k : Nat) : cp (x.drop i) (x.drop k) = cp (x.drop k) (x.drop i) := cp_comm _ _
theorem row_l0 {s : ByteArray} (hs : s.size ≤ 1073741824) {l : List Nat} (h : SrtOk (nb s) l) {R : List Int} (hRl : R.length = s.size) (hR : ∀ j, j < l.length → rd R ((l.getD j 0 : Nat) : Int) = (j : Int)) (d : Nat) : ∀ (i n : Nat), i + d = s.size → (∀ k, k < l.length → l.getD k 0 = i → n ≤ nb1 (nb s) l k) →
    Ev (fun k => lcp_Row.l0 k s (iN l) R (tabn s.size (fun k => if l.getD k 0 < i then (nb1 (nb s) l k : Int) else 0)) (n : Int) (s.size : Int) (i : Int)) (tabn s.size (fun k => (nb1 (nb s) l k : Int))) := by
  have hl : l.length = s.size := by rw [h.p.len, nb_length]
  have hm : ∀ j, j < l.length → l.getD j 0 < s.size := fun j hj => by
    have := h.p.lt (l.getD j 0) (by rw [Lc.gD hj]; exact List.getElem_mem _)
    rw [nb_length] at this; exact this
  induction d with
  | zero =>
    intro i n hi _
    refine Ev.step (f := fun _ => some _) (fun k => ?_) (Ev.now _)
    simp only [lcp_Row.l0]
    rw [if_neg (by omega)]
    congr 1
    exact tabn_congr (fun j hj => by rw [if_pos (by have := hm j (by omega); omega)])
  | succ d ih =>
    intro i n hi hn
    obtain ⟨k, hk, ek⟩ := List.mem_iff_getElem.1 (h.p.all i (by rw [nb_length]; omega))
    have ek : l.getD k 0 = i := by rw [Lc.gD hk, ek]
    have hinj : ∀ j, j < l.length → l.getD j 0 = i → j = k := fun j hj e => by
      rw [← ek, Lc.gD hj, Lc.gD hk] at e
      exact (List.getElem_inj h.p.nd).1 e
    have hrk : rd R (i : Int) = (k : Int) := by rw [← ek]; exact hR k hk
    have hnk := hn k hk ek
    have hst : ∀ v : Int, v = (nb1 (nb s) l k : Int) → (tabn s.size (fun k => if l.getD k 0 < i then (nb1 (nb s) l k : Int) else 0)).set k v = tabn s.size (fun k => if l.getD k 0 < i + 1 then (nb1 (nb s) l k : Int) else 0) := by
      intro v hv
      rw [tabn_set]
      refine tabn_congr (fun j hj => ?_)
      by_cases e : j = k
      · rw [if_pos e, hv, e, if_pos (by omega)]
      · rw [if_neg e]
        have : l.getD j 0 ≠ i := fun e2 => e (hinj j (by omega) e2)
        by_cases h1 : l.getD j 0 < i
        · rw [if_pos h1, if_pos (by omega)]
        · rw [if_neg h1, if_neg (by omega)]
    by_cases hk0 : k = 0
    · have hz : nb1 (nb s) l k = 0 := by unfold nb1; rw [if_pos hk0]
      have := ih (i + 1) 0 (by omega) (fun _ _ _ => Nat.zero_le _)
      rw [← hst 0 (by rw [hz]; rfl)] at this
      have e0 : (tabn s.size (fun k => if l.getD k 0 < i then (nb1 (nb s) l k : Int) else 0)).set k 0 = tabn s.size (fun k => if l.getD k 0 < i then (nb1 (nb s) l k : Int) else 0) := by
        rw [tabn_set]
        exact tabn_congr (fun j hj => by
          by_cases e : j = k
          · rw [if_pos e, e, hz]; split <;> rfl
          · rw [if_neg e])
      rw [e0] at this
      refine Ev.step (fun kk => ?_) this
      simp only [lcp_Row.l0]
      rw [hrk, if_pos (by omega), if_pos (by omega), if_pos (by omega), if_pos (by omega), w64 (by omega) (by omega)]
      rfl
    · obtain ⟨p, hp⟩ : ∃ p, l.getD (k - 1) 0 = p := ⟨_, rfl⟩
      have hpl := hm (k - 1) (by omega)
      rw [hp] at hpl
      have hnb : nb1 (nb s) l k = cp ((nb s).drop i) ((nb s).drop p) := by unfold nb1; rw [if_neg hk0, ek, hp, cp_sym]
      have hle := cp_le ((nb s).drop i) ((nb s).drop p)
      rw [List.length_drop, nb_length] at hle
      rw [hnb] at hnk
      have hsh : lcp_shared.f s (i : Int) (p : Int) (n : Int) = some (nb1 (nb s) l k : Int) := by
        unfold lcp_shared.f
        rw [if_pos ⟨by omega, by omega, by omega, by omega, by omega, by omega, hs⟩, Int.toNat_natCast, Int.toNat_natCast, Int.toNat_natCast, ext_cp _ _ hnk (by rw [nb_length]; omega), hnb]
      have hrp : rd (iN l) ((k - 1 : Nat) : Int) = (p : Int) := by rw [rd_nat, iN_getD, hp]
      have hnext : ∀ k', k' < l.length → l.getD k' 0 = i + 1 → nb1 (nb s) l k - 1 ≤ nb1 (nb s) l k' := fun k' hk' e' => kasai h.o h.p.lt h.p.all hk ek hk' e'
      have := ih (i + 1) (nb1 (nb s) l k - 1) (by omega) hnext
      rw [← hst _ rfl] at this
      have hv : nb1 (nb s) l k ≤ s.size := by rw [hnb]; omega
      have emx : mx 0 (wrap64 ((nb1 (nb s) l k : Int) - 1)) = ((nb1 (nb s) l k - 1 : Nat) : Int) := by
        rw [w64 (by omega) (by omega)]
        unfold mx
        split <;> omega
      refine Ev.step (fun kk => ?_) this
      simp only [lcp_Row.l0]
      rw [hrk, if_pos (by omega), if_pos (by omega), if_pos (by omega), if_neg (by omega), w64 (x := (k : Int) - 1) (by omega) (by omega), show (k : Int) - 1 = ((k - 1 : Nat) : Int) from by omega, hrp, if_pos (by omega), if_pos (by rw [iN_len]; omega), hsh]
      simp only [Option.bind_some]
      rw [if_pos (by omega), if_pos (by rw [tabn_length]; omega), Int.toNat_natCast, emx, w64 (x := (i : Int) + 1) (by omega) (by omega)]
      rfl
theorem row_ev {s : ByteArray} (hs : s.size ≤ 1073741824) : Ev (fun k => lcp_Row.f k s (iN (srtN (nb s)))) (rowN s) := by
  have h := srtN_ok (nb s)
  have hl : (srtN (nb s)).length = s.size := by rw [h.p.len, nb_length]
  have hi := is_ev hs (iN (srtN (nb s))) (by rw [iN_len]; omega)
  rw [decide_eq_true rfl] at hi
  have hRk : suffix_Ranks.f (iN (srtN (nb s))) = some (tabn s.size (vF (iN (srtN (nb s))) · s.size)) := by
    unfold suffix_Ranks.f
    rw [if_pos (by rw [iN_len]; omega), iN_len, hl]
    congr 1
    refine tabn_congr (fun y hy => ?_)
    have := rk_v (zs := iN (srtN (nb s))) (y := y) (by rw [iN_len]; omega) s.size
    rw [iN_len, hl] at this
    exact this
  unfold rowN
  generalize srtN (nb s) = l at h hl hi hRk
  unfold lcp_Row.f
  refine Ev.bind (f := fun k t => _) hi ?_
  refine Ev.ifp rfl ?_
  rw [hRk]
  simp only [Option.bind_some]
  refine Ev.ifp (by omega) (Ev.ifp (by rw [iN_len]; omega) ?_)
  have := row_l0 hs h (R := tabn s.size (vF (iN l) · s.size)) (tabn_length _ _) (fun j hj => by
    rw [rd_nat, tabn_getD (by
      have := h.p.lt (l.getD j 0) (by rw [Lc.gD hj]; exact List.getElem_mem _)
      rw [nb_length] at this; exact this)]
    exact vF_at h.p.nd hj s.size (by omega) (by omega)) s.size 0 0 (by omega) (fun _ _ _ => Nat.zero_le _)
  rw [Int.toNat_natCast, iN_len, hl, tabn_zero]
  have e : tabn s.size (fun k => if l.getD k 0 < 0 then (nb1 (nb s) l k : Int) else 0) = tabn s.size (fun _ => 0) := tabn_congr (fun j _ => by rw [if_neg (by omega)])
  rw [e] at this
  exact this
theorem row_no {s : ByteArray} (hs : s.size ≤ 1073741824) {a : List Int} (ha : a.length ≤ 140737488355328) (h : a ≠ iN (srtN (nb s))) : Ev (fun k => lcp_Row.f k s a) [] := by
  have hi := is_ev hs a ha
  rw [decide_eq_false h] at hi
  unfold lcp_Row.f
  refine Ev.bind (f := fun k t => _) hi ?_
  exact Ev.ifn (by simp) (Ev.now _)
/-- What two ends share. -/
def ofV (s : ByteArray) (i k : Int) : Int := if i < 0 ∨ (s.size : Int) < i ∨ k < 0 ∨ (s.size : Int) < k then 0 else ((cp ((nb s).drop i.toNat) ((nb s).drop k.toNat) : Nat) : Int)
theorem of_eq {s : ByteArray} (hs : s.size ≤ 1073741824) (i k : Int) : lcp_Of.f s i k = some (ofV s i k) := by
  unfold lcp_Of.f ofV
  by_cases h1 : i < 0
  · rw [if_pos h1, if_pos (.inl h1)]
  · rw [if_neg h1]
    by_cases h2 : i > (s.size : Int)
    · rw [if_pos h2, if_pos (.inr (.inl h2))]
    · rw [if_neg h2]
      by_cases h3 : k < 0
      · rw [if_pos h3, if_pos (.inr (.inr (.inl h3)))]
      · rw [if_neg h3]
        by_cases h4 : k > (s.size : Int)
        · rw [if_pos h4, if_pos (.inr (.inr (.inr h4)))]
        · rw [if_neg h4, if_neg (by omega)]
          unfold lcp_shared.f
          rw [if_pos ⟨by omega, by omega, by omega, by omega, by omega, by omega, hs⟩]
          simp only [Option.bind_some]
          rw [show (0 : Int).toNat = 0 from rfl, ext_cp _ _ (Nat.zero_le _) (by omega)]
theorem rof_l0 {s : ByteArray} (hs : s.size ≤ 1073741824) {i k : Nat} (hi : i ≤ s.size) (hk : k ≤ s.size) (d : Nat) : ∀ n, n ≤ cp ((nb s).drop i) ((nb s).drop k) → cp ((nb s).drop i) ((nb s).drop k) = n + d →
    Ev (fun f => gladstoneref19_Of.l0 f s (i : Int) (k : Int) (n : Int)) ((cp ((nb s).drop i) ((nb s).drop k) : Nat) : Int) := by
  have hle := cp_le ((nb s).drop i) ((nb s).drop k)
  rw [List.length_drop, nb_length] at hle
  have key : ∀ n, n ≤ cp ((nb s).drop i) ((nb s).drop k) → (n < cp ((nb s).drop i) ((nb s).drop k) ↔ i + n < s.size ∧ k + n < s.size ∧ (nb s).getD (i + n) 0 = (nb s).getD (k + n) 0) := by
    intro n h
    have hst := cp_step n _ _ h
    rw [List.length_drop, List.length_drop, nb_length, List.getD_eq_getElem?_getD, List.getD_eq_getElem?_getD, List.getElem?_drop, List.getElem?_drop, ← List.getD_eq_getElem?_getD, ← List.getD_eq_getElem?_getD] at hst
    rw [hst]
    constructor
    · rintro ⟨a, b, c⟩; exact ⟨by omega, by omega, c⟩
    · rintro ⟨a, b, c⟩; exact ⟨by omega, by omega, c⟩
  induction d with
  | zero =>
    intro n h he
    have hk2 := mt (key n h).2 (by omega)
    rw [he, Nat.add_zero]
    refine Ev.step (f := fun _ => some _) (fun f => ?_) (Ev.now _)
    simp only [gladstoneref19_Of.l0]
    rw [w64 (x := (i : Int) + (n : Int)) (by omega) (by omega), w64 (x := (k : Int) + (n : Int)) (by omega) (by omega)]
    by_cases h1 : i + n < s.size
    · rw [if_pos (by omega)]
      by_cases h2 : k + n < s.size
      · rw [if_pos (by omega), if_pos (by omega), if_pos (by omega), show (i : Int) + (n : Int) = ((i + n : Nat) : Int) from by omega, show (k : Int) + (n : Int) = ((k + n : Nat) : Int) from by omega, bt_nb, bt_nb, if_neg (fun z => hk2 ⟨h1, h2, by omega⟩)]
      · rw [if_neg (by omega)]
    · rw [if_neg (by omega)]
  | succ d ih =>
    intro n h he
    have hk2 := (key n h).1 (by omega)
    refine Ev.step (f := fun f => gladstoneref19_Of.l0 f s (i : Int) (k : Int) ((n + 1 : Nat) : Int)) (fun f => ?_) (ih (n + 1) (by omega) (by omega))
    simp only [gladstoneref19_Of.l0]
    rw [w64 (x := (i : Int) + (n : Int)) (by omega) (by omega), w64 (x := (k : Int) + (n : Int)) (by omega) (by omega), if_pos (by omega), if_pos (by omega), if_pos (by omega), if_pos (by omega), show (i : Int) + (n : Int) = ((i + n : Nat) : Int) from by omega, show (k : Int) + (n : Int) = ((k + n : Nat) : Int) from by omega, bt_nb, bt_nb, if_pos (by have := hk2.2.2; omega), w64 (by omega) (by omega)]
    rfl
theorem rof_ev {s : ByteArray} (hs : s.size ≤ 1073741824) (i k : Int) : Ev (fun f => gladstoneref19_Of.f f s i k) (ofV s i k) := by
  have bad : i < 0 ∨ (s.size : Int) < i ∨ k < 0 ∨ (s.size : Int) < k → Ev (fun f => gladstoneref19_Of.j0 f s i k true) (ofV s i k) := by
    intro h
    unfold ofV
    rw [if_pos h]
    refine Ev.step (fun f => by simp only [gladstoneref19_Of.j0]; rfl) ?_
    exact Ev.ifp trivial (Ev.now _)
  unfold gladstoneref19_Of.f
  by_cases h1 : i < 0
  · exact Ev.ifp h1 (bad (.inl h1))
  · refine Ev.ifn h1 ?_
    by_cases h2 : i > (s.size : Int)
    · exact Ev.ifp h2 (bad (.inr (.inl h2)))
    · refine Ev.ifn h2 ?_
      by_cases h3 : k < 0
      · exact Ev.ifp h3 (bad (.inr (.inr (.inl h3))))
      · refine Ev.ifn h3 ?_
        by_cases h4 : k > (s.size : Int)
        · rw [decide_eq_true h4]; exact bad (.inr (.inr (.inr h4)))
        · rw [decide_eq_false h4]
          obtain ⟨a, rfl⟩ : ∃ a : Nat, i = (a : Int) := ⟨i.toNat, by omega⟩
          obtain ⟨b, rfl⟩ : ∃ b : Nat, k = (b : Int) := ⟨k.toNat, by omega⟩
          unfold ofV
          rw [if_neg (by omega), Int.toNat_natCast, Int.toNat_natCast]
          refine Ev.step (fun f => by simp only [gladstoneref19_Of.j0]; rfl) ?_
          refine Ev.ifn (by simp) ?_
          exact rof_l0 hs (by omega) (by omega) _ 0 (Nat.zero_le _) (Nat.zero_add _).symm
set_option maxRecDepth 100000 in
theorem awake_true : gladstonelaw20_awake.f 40 = some true := by decide +kernel
theorem awake_ev : Ev (fun k => gladstonelaw20_awake.f k) true := Ev.of (fun k => gladstonelaw20_awake.mono k) awake_true
end Go.Proofs.Ytfmgoealbaihjaa.Pure
