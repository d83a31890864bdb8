/- The plain law of chapter 9 (slow): SlowBack. -/
import Derived.Test.YtlegmefnaghloaaPureSlow3
import Derived.Test.YtlegmefnaghloaaPx4
import Derived.Test.YtlegmefnaghloaaPx8
import Derived.Test.YtlegmefnaghloaaPx9
set_option linter.unusedVariables false
set_option linter.unusedSimpArgs false
set_option linter.unusedSectionVars false
namespace Go.Proofs.Ytlegmefnaghloaa.Pure
open Go.RowKit Go.Proofs.YtlegmefnaghloaaW.PrintWords Go.Proofs.YtlegmefnaghloaaW.PrintMore Go.Proofs.Ytlegmefnaghloaa.P Go.Proofs.Ytlegmefnaghloaa.Com Go.Proofs.Ytlegmefnaghloaa.Cn Go.Proofs.Ytlegmefnaghloaa.Hd
attribute [local irreducible] ord pos code
def flat (l : List Int) : List Int → List Bool
  | [] => []
  | x :: t => mb (code l x.toNat) (ln l x.toNat) ++ flat l t
theorem encR_ok (l : List Int) (syms : List Int) : ∀ acc : List Bool, ((encR l acc syms).2 = 0 → (encR l acc syms).1 = acc ++ flat l syms ∧ ∀ x ∈ syms, ¬ (x < 0 ∨ (l.length : Int) ≤ x ∨ l.getD x.toNat 0 = 0)) ∧ ((encR l acc syms).2 ≠ 0 → (encR l acc syms).1 = []) := by
  induction syms with
  | nil => intro acc; exact ⟨fun _ => ⟨by rw [encR, flat, List.append_nil], fun x h => by cases h⟩, fun h => absurd rfl h⟩
  | cons x t ih =>
    intro acc
    rw [encR]
    split
    · exact ⟨fun h => absurd h (by decide), fun _ => rfl⟩
    · rename_i hb
      obtain ⟨h1, h2⟩ := ih (acc ++ mb (code l x.toNat) (ln l x.toNat))
      refine ⟨fun h => ⟨by rw [(h1 h).1, flat, List.append_assoc], fun y hy => ?_⟩, h2⟩
      rcases List.mem_cons.1 hy with rfl | hy
      · exact hb
      · exact (h1 h).2 y hy
theorem flat_len (l : List Int) (hl : ∀ x ∈ l, 0 ≤ x ∧ x ≤ 16) (syms : List Int) (hs : ∀ x ∈ syms, ¬ (x < 0 ∨ (l.length : Int) ≤ x ∨ l.getD x.toNat 0 = 0)) : (flat l syms).length ≤ 16 * syms.length := by
  induction syms with
  | nil => exact Nat.zero_le _
  | cons x t ih =>
    have h1 := ih (fun y hy => hs y (List.mem_cons_of_mem _ hy))
    have h := hs x (List.mem_cons_self ..)
    have h2 := (ln16 hl (show x.toNat < l.length by omega)).1
    rw [flat, List.length_append, mb_length, List.length_cons]
    omega
theorem back_l0 {l : List Int} (hc : chk l 16 = 0) (syms : List Int) (hs : syms.length ≤ 1000) (hg : ∀ x ∈ syms, ¬ (x < 0 ∨ (l.length : Int) ≤ x ∨ l.getD x.toNat 0 = 0)) (behind : List Bool) (hb : behind.length ≤ 1000) (d : Nat) : ∀ i, i + d = syms.length →
    Ev (fun k => gladstonelaw09_SlowBack.l0 k l syms behind (flat l (syms.drop i) ++ behind) (i : Int)) true := by
  have hl := (chk_len hc).2
  induction d with
  | zero =>
    intro i hi
    rw [List.drop_eq_nil_of_le (by omega), flat, List.nil_append]
    refine Ev.step (f := fun k => (gladstoneref09_Bools.f k behind behind).bind fun t244 => (if t244 = true then ((gladstonelaw09_awake.f k).bind fun t245 => (some t245)) else (some false))) (fun k => ?_) (Ev.bind (bools_ev _ (by omega)) (Ev.ifp rfl awake_ev'))
    simp only [gladstonelaw09_SlowBack.l0]
    rw [if_neg (by omega)]
  | succ d ih =>
    intro i hi
    have hil : i < syms.length := by omega
    have ew : wrap64 ((i : Int) + 1) = ((i + 1 : Nat) : Int) := by rw [w64 (by omega) (by omega)]; omega
    have hm : rd syms (i : Int) ∈ syms := by rw [rd_nat, List.getD_eq_getElem?_getD, List.getElem?_eq_getElem hil]; exact List.getElem_mem hil
    have hgx := hg _ hm
    have hfl := flat_len l hl (syms.drop i) (fun x hx => hg x (List.mem_of_mem_drop hx))
    rw [List.length_drop] at hfl
    rw [drop_at syms i hil, flat] at hfl ⊢
    obtain ⟨x, hx⟩ : ∃ x, rd syms (i : Int) = x := ⟨_, rfl⟩
    rw [hx] at hgx hfl ⊢
    obtain ⟨y, rfl⟩ : ∃ y : Nat, x = y := ⟨x.toNat, by omega⟩
    rw [Int.toNat_natCast] at hgx hfl ⊢
    have hy : y < l.length := by omega
    have h16 := ln16 hl hy
    have h0 : 0 < l.getD y 0 := by omega
    have hp := ln_pos h0
    rw [List.append_assoc]
    obtain ⟨rest, hrest⟩ : ∃ r, flat l (syms.drop (i + 1)) ++ behind = r := ⟨_, rfl⟩
    have hd := decode_ev l (by have := (chk_len hc).1; omega) (mb (code l y) (ln l y) ++ rest) (by rw [← hrest, ← List.append_assoc, List.length_append]; omega)
    unfold decP at hd
    rw [if_pos hc, sdm_code hc hy h0] at hd
    have hih := ih (i + 1) (by omega)
    rw [hrest] at hih ⊢
    have hlen : (mb (code l y) (ln l y) ++ rest).length = ln l y + rest.length := by rw [List.length_append, mb_length]
    refine Ev.step (f := fun k => (slow_Decode.f k l (mb (code l y) (ln l y) ++ rest)).bind fun bt237 => (if 0 ≤ (i : Int) then (if bt237.1 = (y : Int) then (if bt237.2.1 < 1 then (some false) else (if bt237.2.1 > ((mb (code l y) (ln l y) ++ rest).length : Int) then (some false) else (if bt237.2.2 = 0 then (if 0 ≤ bt237.2.1 then (if bt237.2.1 ≤ ((mb (code l y) (ln l y) ++ rest).length : Int) then (gladstonelaw09_SlowBack.l0 k l syms behind ((mb (code l y) (ln l y) ++ rest).drop (bt237.2.1 : Int).toNat) ((i + 1 : Nat) : Int)) else (none)) else (none)) else (some false)))) else (some false)) else (none))) (fun k => ?_) ?_
    · simp only [gladstonelaw09_SlowBack.l0]
      rw [if_pos (by omega), hx, ew]
    · refine Ev.bind hd (Ev.ifp (by omega) (Ev.ifp rfl (Ev.ifn (by show ¬ (ln l y : Int) < 1; omega) (Ev.ifn (by rw [hlen]; show ¬ (ln l y : Int) > _; omega) (Ev.ifp rfl (Ev.ifp (by show (0 : Int) ≤ (ln l y : Int); omega) (Ev.ifp (by rw [hlen]; show (ln l y : Int) ≤ _; omega) ?_)))))))
      have e : (mb (code l y) (ln l y) ++ rest).drop ((ln l y : Int)).toNat = rest := by rw [Int.toNat_natCast]; exact List.drop_left' (mb_length _ _)
      show Ev (fun k => gladstonelaw09_SlowBack.l0 k l syms behind ((mb (code l y) (ln l y) ++ rest).drop ((ln l y : Int)).toNat) ((i + 1 : Nat) : Int)) true
      rw [e]
      exact hih
theorem SlowBack (l0 : List Int) {p0 q0 : Prop} (_ : p0) (_ : q0) (l1 : List Int) {p1 q1 : Prop} (_ : p1) (_ : q1) (l2 : List Bool) {p2 : Prop} (_ : p2) : ∃ k, gladstonelaw09_SlowBack.f k l0 l1 l2 = some true := by
  have ht : Ev (fun k => gladstonelaw09_SlowBack.j0 k l0 l1 l2 true) true := by
    refine Ev.step (fun k => ?_) awake_ev'
    simp only [gladstonelaw09_SlowBack.j0]
    rw [if_pos trivial]
  have h : Ev (fun k => gladstonelaw09_SlowBack.f k l0 l1 l2) true := by
    unfold gladstonelaw09_SlowBack.f
    by_cases h1 : (l0.length : Int) > 100
    · exact Ev.ifp h1 ht
    · refine Ev.ifn h1 ?_
      by_cases h2 : (l1.length : Int) > 50
      · exact Ev.ifp h2 ht
      · refine Ev.ifn h2 ?_
        by_cases h3 : (l2.length : Int) > 100
        · rw [decide_eq_true h3]; exact ht
        · rw [decide_eq_false h3]
          refine Ev.step (f := fun k => (slow_Encode.f k l0 l1).bind fun bt229 => (if bt229.2 = 0 then (if bt229.1.length + l2.length < 140737488355328 then (gladstonelaw09_SlowBack.l0 k l0 l1 l2 (bt229.1 ++ l2) 0) else (none)) else (if (bt229.1.length : Int) = 0 then ((gladstonelaw09_awake.f k).bind fun t233 => (some t233)) else (some false)))) (fun k => ?_) ?_
          · simp only [gladstonelaw09_SlowBack.j0]
            rw [if_neg (by decide)]
          · refine Ev.bind (encode_ev l0 (by omega) l1 (by omega)) ?_
            have hlen := encP_len l0 l1 (by omega)
            by_cases hz : (encP l0 l1).2 = 0
            · refine Ev.ifp hz (Ev.ifp (by omega) ?_)
              by_cases hc : chk l0 16 = 0
              · have he : encP l0 l1 = encR l0 [] l1 := by unfold encP; exact if_pos hc
                rw [he] at hz ⊢
                obtain ⟨e1, hg⟩ := (encR_ok l0 l1 []).1 hz
                have hb := back_l0 hc l1 (by omega) hg l2 (by omega) l1.length 0 (by omega)
                rw [e1, List.nil_append]
                exact hb
              · have he : encP l0 l1 = ([], chk l0 16) := by unfold encP; exact if_neg hc
                rw [he] at hz
                exact absurd hz hc
            · refine Ev.ifn hz (Ev.ifp ?_ awake_ev')
              have he : (encP l0 l1).1 = [] := by
                unfold encP at hz ⊢
                by_cases hc : chk l0 16 = 0
                · rw [if_pos hc] at hz ⊢; exact (encR_ok l0 l1 []).2 hz
                · rw [if_neg hc]
              rw [he]; rfl
  exact ev_get h
end Go.Proofs.Ytlegmefnaghloaa.Pure
