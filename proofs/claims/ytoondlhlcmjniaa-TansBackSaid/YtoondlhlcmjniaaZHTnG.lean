/- tans: the contracts of Encode and Decode in the print's form. -/
import Derived.Test.YtoondlhlcmjniaaZHTnD
set_option linter.unusedVariables false
set_option linter.unusedSimpArgs false
set_option linter.unusedSectionVars false
namespace Go.Proofs.Ytoondlhlcmjniaa.Hd
open Go Go.RowKit Go.Shelf Go.Proofs.YtoondlhlcmjniaaW.PrintWords Go.Proofs.YtoondlhlcmjniaaW.PrintLast Go.Proofs.YtoondlhlcmjniaaW.PrintMore Go.Proofs.Ytoondlhlcmjniaa.Hw Go.Proofs.Ytoondlhlcmjniaa.Com Go.Proofs.Ytoondlhlcmjniaa.P Go.Proofs.Ytoondlhlcmjniaa.Tn Go.Proofs.Ytoondlhlcmjniaa.Pure
open Go.Proofs.Ytoondlhlcmjniaa.Cn hiding pos
theorem chk0 {l : List Int} {n : Int} (h : chkT l n = 0) : (5 ≤ n ∧ n ≤ 12) ∧ l.length ≤ 256 ∧ (∀ x ∈ l, 0 ≤ x) ∧ l.sum = 2 ^ n.toNat := by
  unfold chkT at h
  by_cases hn : n < 5 ∨ 12 < n
  · rw [if_pos hn] at h; cases h
  rw [if_neg hn] at h
  by_cases hc : l.length ≤ 256 ∧ (∀ x ∈ l, 0 ≤ x) ∧ l.sum = 2 ^ n.toNat
  · exact ⟨by omega, hc⟩
  · rw [if_neg hc] at h; cases h
theorem getD_mem' {l : List Int} {i : Nat} (h : i < l.length) : l.getD i 0 ∈ l := by
  rw [List.getD_eq_getElem?_getD, List.getElem?_eq_getElem h]; exact List.getElem_mem _
theorem nm_ok {l : List Int} {nn : Nat} (h : chkT l (nn : Int) = 0) : NmOk l nn (2 ^ nn) (syF nn (nl l)) := by
  obtain ⟨h1, h2, h3, h4⟩ := chk0 h
  rw [Int.toNat_natCast] at h4
  have hs := nl_sum_eq h3 h4
  have hb : ∀ s, s < l.length → 0 ≤ l.getD s 0 ∧ l.getD s 0 ≤ ((2 ^ nn : Nat) : Int) := fun s hs => ⟨h3 _ (getD_mem' hs), by
    have := mem_le_sum l h3 _ (getD_mem' hs)
    rw [h4] at this
    simpa using this⟩
  refine ⟨by omega, by omega, rfl, h2, fun x hx => ?_, hb, fun s hs2 => ?_, fun x hx => ?_⟩
  · have := (sy_in hs x).1
    rw [nl_len] at this
    exact this
  · rw [st_len]
    have := sy_count (n := nn) (by omega) (by omega) hs s
    rw [this, nl_get]
    have := (hb s hs2).1
    omega
  · have := (sy_in hs x).2
    rw [nl_get] at this
    omega
theorem spr_ok {l : List Int} {nn : Nat} (h : chkT l (nn : Int) = 0) : ∃ k, tans_spread.f k l (nn : Int) = some (tabn (2 ^ nn) (fun x => (syF nn (nl l) x : Int))) := by
  obtain ⟨h1, h2, h3, h4⟩ := chk0 h
  rw [Int.toNat_natCast] at h4
  exact ev_get (spread_ev (n := nn) (N := 2 ^ nn) (by omega) (by omega) rfl h3 (nl_sum_eq h3 h4) h2)
end Go.Proofs.Ytoondlhlcmjniaa.Hd
namespace Go.Proofs.Ytoondlhlcmjniaa.P
open Go Go.RowKit Go.Shelf Go.Proofs.YtoondlhlcmjniaaW.PrintWords Go.Proofs.YtoondlhlcmjniaaW.PrintLast Go.Proofs.YtoondlhlcmjniaaW.PrintMore Go.Proofs.Ytoondlhlcmjniaa.Hw Go.Proofs.Ytoondlhlcmjniaa.Com Go.Proofs.Ytoondlhlcmjniaa.Hd Go.Proofs.Ytoondlhlcmjniaa.Tn Go.Proofs.Ytoondlhlcmjniaa.Pure
def encT (l0 l1 : List Int) (a2 : Int) : ByteArray × Int :=
  if chkT l1 a2 ≠ 0 then (⟨#[]⟩, chkT l1 a2) else if 1048576 < l0.length then (⟨#[]⟩, 5) else if l0.any (badS l1) = true then (⟨#[]⟩, 7) else (bstr (encB l1 a2.toNat (2 ^ a2.toNat) (syF a2.toNat (nl l1)) l0), 0)
def tans_Encode.f (l0 l1 : List Int) (a2 : Int) : Option (ByteArray × Int) := if l0.length ≤ 1073741824 ∧ l1.length ≤ 1073741824 then some (encT l0 l1 a2) else none
theorem tans_Encode.calls (A0 : Option Addr) (c0 : Nat) (l0 : List Int) (A1 : Option Addr) (c1 : Nat) (l1 : List Int) (a2 : Int) (r1 : ByteArray) (r2 : Int) (w : World) (hr0 : Kd.C (Kd.int .i64) w A0 l0.length l0) (hc0 : l0.length ≤ c0) (hr1 : Kd.C (Kd.int .i64) w A1 l1.length l1) (hc1 : l1.length ≤ c1) (h : tans_Encode.f l0 l1 a2 = some (r1, r2)) :
    Calls Try.prog 14 #[.slice A0 l0.length c0, .slice A1 l1.length c1, .int .i64 a2] w fun e w' => e = .returned (.tuple #[.string r1, .int .i64 r2]) ∧ Below w.heap.size w w' := by
  unfold tans_Encode.f at h
  by_cases hl : l0.length ≤ 1073741824 ∧ l1.length ≤ 1073741824
  case neg => rw [if_neg hl] at h; cases h
  rw [if_pos hl] at h
  have h : encT l0 l1 a2 = (r1, r2) := by injection h
  unfold encT at h
  obtain ⟨k, hk⟩ := ev_get (check_ev l1 hl.2 a2)
  by_cases h1 : chkT l1 a2 ≠ 0
  · rw [if_pos h1] at h
    cases h
    have := enc_err A1 A0 c1 c0 l1 l0 a2 _ k w hr1 hc1 hr0 hl.1 hk (.inl h1)
    rw [if_pos h1] at this
    exact this
  rw [if_neg h1] at h
  have h1 : chkT l1 a2 = 0 := by omega
  rw [h1] at hk
  by_cases h2 : 1048576 < l0.length
  · rw [if_pos h2] at h
    cases h
    have := enc_err A1 A0 c1 c0 l1 l0 a2 _ k w hr1 hc1 hr0 hl.1 hk (.inr (.inl ⟨rfl, h2⟩))
    rw [if_neg (by decide), if_pos h2] at this
    exact this
  rw [if_neg h2] at h
  by_cases h3 : l0.any (badS l1) = true
  · rw [if_pos h3] at h
    cases h
    have := enc_err A1 A0 c1 c0 l1 l0 a2 _ k w hr1 hc1 hr0 hl.1 hk (.inr (.inr ⟨rfl, by omega, h3⟩))
    rw [if_neg (by decide), if_neg h2] at this
    exact this
  rw [if_neg h3] at h
  cases h
  have hn := (chk0 h1).1
  obtain ⟨nn, rfl⟩ : ∃ nn : Nat, a2 = (nn : Int) := ⟨a2.toNat, by omega⟩
  obtain ⟨k2, hk2⟩ := spr_ok h1
  rw [Int.toNat_natCast]
  exact enc_main A1 A0 c1 c0 l1 l0 nn (2 ^ nn) (syF nn (nl l1)) k k2 w hr1 hc1 hr0 (by omega) hk (nm_ok h1) hk2 (by simpa using h3)
def decT (a0 : ByteArray) (a1 : Int) (l2 : List Int) (a3 : Int) : List Int × Int :=
  if chkT l2 a3 ≠ 0 then ([], chkT l2 a3) else dcT (nb a0) a1 l2 a3.toNat (2 ^ a3.toNat) (syF a3.toNat (nl l2))
def tans_Decode.f (a0 : ByteArray) (a1 : Int) (l2 : List Int) (a3 : Int) : Option (List Int × Int) := if a0.size ≤ 1099511627776 ∧ l2.length ≤ 1073741824 then some (decT a0 a1 l2 a3) else none
theorem tans_Decode.calls (a0 : ByteArray) (a1 : Int) (A2 : Option Addr) (c2 : Nat) (l2 : List Int) (a3 : Int) (r1 : List Int) (r2 : Int) (w : World) (hr2 : Kd.C (Kd.int .i64) w A2 l2.length l2) (hc2 : l2.length ≤ c2) (h : tans_Decode.f a0 a1 l2 a3 = some (r1, r2)) :
    Calls Try.prog 12 #[.string a0, .int .i64 a1, .slice A2 l2.length c2, .int .i64 a3] w fun e w' => ∃ v0_ : Value, e = .returned (.tuple #[v0_, .int .i64 r2]) ∧ Kd.R (Kd.int .i64) 3 w' w.heap.size (fun _ => True) v0_ r1 ∧ Below w.heap.size w w' := by
  unfold tans_Decode.f at h
  by_cases hl : a0.size ≤ 1099511627776 ∧ l2.length ≤ 1073741824
  case neg => rw [if_neg hl] at h; cases h
  rw [if_pos hl] at h
  have h : decT a0 a1 l2 a3 = (r1, r2) := by injection h
  unfold decT at h
  obtain ⟨k, hk⟩ := ev_get (check_ev l2 hl.2 a3)
  by_cases h1 : chkT l2 a3 ≠ 0
  · rw [if_pos h1] at h
    cases h
    have := dec_err A2 c2 l2 a0 a1 a3 _ k w hr2 hc2 hk (.inl h1)
    rw [if_pos h1] at this
    exact this.mono fun e w' ⟨h1, h2⟩ => ⟨_, h1, Kd.R_nil _ _ _ _ _, h2⟩
  rw [if_neg h1] at h
  have h1 : chkT l2 a3 = 0 := by omega
  rw [h1] at hk
  have hn := (chk0 h1).1
  obtain ⟨nn, rfl⟩ : ∃ nn : Nat, a3 = (nn : Int) := ⟨a3.toNat, by omega⟩
  rw [Int.toNat_natCast] at h
  by_cases h2 : a1 < 0 ∨ 1048576 < a1
  · unfold dcT at h
    rw [if_pos h2] at h
    cases h
    have := dec_err A2 c2 l2 a0 a1 _ _ k w hr2 hc2 hk (.inr ⟨rfl, h2⟩)
    rw [if_neg (by decide)] at this
    exact this.mono fun e w' ⟨h1, h2⟩ => ⟨_, h1, Kd.R_nil _ _ _ _ _, h2⟩
  obtain ⟨many, rfl⟩ : ∃ many : Nat, a1 = (many : Int) := ⟨a1.toNat, by omega⟩
  obtain ⟨k2, hk2⟩ := spr_ok h1
  exact dec_main A2 c2 l2 a0 (nb a0) many nn (2 ^ nn) (syF nn (nl l2)) k k2 w hr2 hc2 hk (nm_ok h1) hk2 (by omega) hl.1 rfl r1 r2 h
end Go.Proofs.Ytoondlhlcmjniaa.P
