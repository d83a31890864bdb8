/- tans: the plain law of TansBack. -/
import Derived.Test.YtoondlhlcmjniaaZPureTnD
import Derived.Test.YtoondlhlcmjniaaZPureTnB
import Derived.Test.YtoondlhlcmjniaaZPureTansNorms
import Derived.Test.YtoondlhlcmjniaaZPx11
set_option linter.unusedVariables false
set_option linter.unusedSimpArgs false
set_option linter.unusedSectionVars false
namespace Go.Proofs.Ytoondlhlcmjniaa.Pure
open Go Go.RowKit Go.Proofs.YtoondlhlcmjniaaW.PrintWords Go.Proofs.YtoondlhlcmjniaaW.PrintMore Go.Proofs.Ytoondlhlcmjniaa.P Go.Proofs.Ytoondlhlcmjniaa.Com Go.Proofs.Ytoondlhlcmjniaa.Hd
/-- Norms of frequencies are norms. -/
theorem norm_chk {l : List Int} {n : Int} (h : chkN l n = 0) : chkT (normT l (2 ^ n.toNat)) n = 0 := by
  obtain ⟨h1, h2, h3, h4, h5, h6⟩ := chkN_ok h
  obtain ⟨k1, k2, k3⟩ := normT_ok (l := l) (N := 2 ^ n.toNat) (Nat.two_pow_pos _) (Nat.pow_le_pow_right (n := 2) (by decide) (show n.toNat ≤ 12 by omega)) h3 h4 h2 h6
  unfold chkT
  rw [if_neg (by omega), if_pos ⟨by omega, k2, by rw [k3]; simp⟩]
theorem back_l0 {l norm : List Int} {n : Int} (hl : l.length ≤ 300) (hn : norm.length ≤ 1000) (h : chkT norm n = 0) : ∀ d i, i + d = l.length → (∀ j, j < i → badS norm (l.getD j 0) = false) → Ev (fun k => gladstonelaw59_TansBack.l0 k l n norm (encT l norm n).1 (encT l norm n).2 (i : Int)) true := by
  intro d
  induction d with
  | zero =>
    intro i hi hg
    have hb : l.any (badS norm) = false := by
      rw [List.any_eq_false]
      intro x hx
      obtain ⟨j, hj, rfl⟩ := List.getElem_of_mem hx
      have := hg j (by omega)
      rw [List.getD_eq_getElem?_getD, List.getElem?_eq_getElem hj] at this
      rw [show badS norm l[j] = false from this]; decide
    obtain ⟨e1, e2, e3⟩ := tans_back h hb (by omega)
    have hs : (encT l norm n).1.size ≤ 1073741824 := by omega
    refine Ev.step (fun k => by simp only [gladstonelaw59_TansBack.l0]; rw [if_neg (by omega)]) ?_
    have hd := rdec_ev (encT l norm n).1 hs (l.length : Int) norm (by omega) n
    rw [e2] at hd
    refine Ev.bind (f := fun k t => _) hd ?_
    refine Ev.ifp e1 (Ev.ifp rfl ?_)
    refine Ev.bind (f := fun k t => _) (ints_ev l (by omega)) ?_
    exact Ev.ifp rfl (Ev.fixed awake_f')
  | succ d ih =>
    intro i hi hg
    have hil : i < l.length := by omega
    have e : rd l (i : Int) = l.getD i 0 := rd_nat ..
    obtain ⟨s, hs⟩ : ∃ s, l.getD i 0 = s := ⟨_, rfl⟩
    have hbad : badS norm s = true → (encT l norm n).1.toList = ([] : List UInt8) ∧ (encT l norm n).2 = 7 := by
      intro hb
      have hm : l.any (badS norm) = true := by
        refine List.any_eq_true.2 ⟨s, ?_, hb⟩
        rw [← hs, List.getD_eq_getElem?_getD, List.getElem?_eq_getElem hil]; exact List.getElem_mem _
      unfold encT
      rw [if_neg (not_not_intro h), if_neg (by omega), if_pos hm]
      exact ⟨by simp [ByteArray.toList, ByteArray.toList.loop, ByteArray.size], rfl⟩
    have fin : badS norm s = true → Ev (fun _ => if (encT l norm n).1.toList = ([] : List UInt8) then (if (encT l norm n).2 = 7 then ((gladstonelaw59_awake.f).bind fun t291 => (some t291)) else (some false)) else (some false)) true := by
      intro hb
      obtain ⟨a, b⟩ := hbad hb
      exact Ev.ifp a (Ev.ifp b (Ev.fixed awake_f'))
    refine Ev.step (fun k => by simp only [gladstonelaw59_TansBack.l0]; rw [if_pos (by omega), if_pos (by omega), e, hs]) ?_
    by_cases b1 : s < 0
    · exact Ev.ifp b1 (fin (by unfold badS; rw [decide_eq_true b1]; rfl))
    refine Ev.ifn b1 ?_
    by_cases b2 : s ≥ (norm.length : Int)
    · exact Ev.ifp b2 (fin (by unfold badS; rw [decide_eq_true (show (norm.length : Int) ≤ s from b2)]; simp))
    refine Ev.ifn b2 (Ev.ifp (by omega) (Ev.ifp (by omega) ?_))
    obtain ⟨y, rfl⟩ : ∃ y : Nat, s = (y : Int) := ⟨s.toNat, by omega⟩
    rw [rd_nat]
    by_cases b3 : norm.getD y 0 = 0
    · exact Ev.ifp b3 (fin (by unfold badS; rw [Int.toNat_natCast, b3]; simp))
    refine Ev.ifn b3 ?_
    rw [w64 (x := (i : Int) + 1) (by omega) (by omega)]
    refine ih (i + 1) (by omega) (fun j hj => ?_)
    by_cases hji : j = i
    · rw [hji, hs]
      unfold badS
      rw [decide_eq_false b1, decide_eq_false b2, Int.toNat_natCast]
      simpa using b3
    · exact hg j (by omega)
theorem TansBack : gladstonelaw59_TansBack.Pure := by
  intro l fr n _ _ _ _ _ _ _
  apply Ev.rounds
  unfold gladstonelaw59_TansBack.f
  have hj : Ev (fun k => gladstonelaw59_TansBack.j0 k l fr n true) true := by
    refine Ev.step (f := fun _ => some true) (fun k => ?_) (Ev.now _)
    simp only [gladstonelaw59_TansBack.j0]
    rw [if_pos (by simp), awake_f']
  by_cases h1 : (l.length : Int) > 300
  · exact Ev.ifp h1 hj
  refine Ev.ifn h1 ?_
  by_cases h2 : (fr.length : Int) > 256
  · rw [decide_eq_true h2]; exact hj
  rw [decide_eq_false h2]
  refine Ev.step (fun k => by simp only [gladstonelaw59_TansBack.j0]; rfl) ?_
  refine Ev.ifn (by decide) ?_
  refine Ev.bind (f := fun k t => _) (rnorm_ev fr (by omega) n) ?_
  have hlen := refN_len fr n
  unfold refN at hlen ⊢
  by_cases h : chkN fr n = 0
  case neg =>
    rw [if_neg h]
    exact Ev.ifn h (Ev.fixed awake_f')
  rw [if_pos h] at hlen ⊢
  refine Ev.ifp rfl ?_
  have e : tans_Encode.f l (normT fr (2 ^ n.toNat)) n = some (encT l (normT fr (2 ^ n.toNat)) n) := by
    unfold tans_Encode.f
    rw [if_pos ⟨by omega, Nat.le_trans hlen (by decide)⟩]
  refine Ev.bind (f := fun k t => _) (Ev.fixed e) ?_
  exact back_l0 (by omega) hlen (norm_chk h) l.length 0 (by omega) (fun j hj => by omega)
end Go.Proofs.Ytoondlhlcmjniaa.Pure
