/- tans: what Encode gives is decoded as it was, plainly. -/
import Derived.Test.YtoondlhlcmjniaaZHTnG
set_option linter.unusedVariables false
set_option linter.unusedSimpArgs false
set_option linter.unusedSectionVars false
namespace Go.Proofs.Ytoondlhlcmjniaa.Pure
open Go.RowKit Go.Proofs.YtoondlhlcmjniaaW.PrintWords Go.Proofs.YtoondlhlcmjniaaW.PrintMore Go.Proofs.Ytoondlhlcmjniaa.P Go.Proofs.Ytoondlhlcmjniaa.Com Go.Proofs.Ytoondlhlcmjniaa.Tn Go.Proofs.Ytoondlhlcmjniaa.Hd Go.Proofs.Ytoondlhlcmjniaa.Bk Go.Proofs.Ytoondlhlcmjniaa.Bg
theorem upto_map (l : List Int) : (upto l l.length).map (vl l) = l.reverse := by
  refine List.ext_getElem (by simp [upto]) (fun i h1 h2 => ?_)
  have h : i < l.length := by simpa [upto] using h1
  rw [List.getElem_map, List.getElem_reverse]
  unfold upto vl
  rw [List.getElem_map, List.getElem_range, List.getElem?_eq_getElem (by omega)]
  rfl
theorem uptoG_map (l : List (Int × Int)) : (uptoG l l.length).map (vlG l) = l.reverse := by
  refine List.ext_getElem (by simp [uptoG]) (fun i h1 h2 => ?_)
  have h : i < l.length := by simpa [uptoG] using h1
  rw [List.getElem_map, List.getElem_reverse]
  unfold uptoG vlG
  rw [List.getElem_map, List.getElem_range, List.getElem?_eq_getElem (by omega)]
  rfl
section
variable (norm : List Int) (nn N : Nat) (f : Nat → Nat)
def encR (l : List Int) : Nat × List (Int × Int) := l.foldr (fun s st => encE norm nn N f st s) (0, [])
theorem encF_R (l : List Int) : encF norm nn N f l (upto l l.length) = encR norm nn N f l := by
  unfold encF encR
  rw [← List.foldl_map (g := fun st s => encE norm nn N f st s) (f := vl l), upto_map, List.foldl_reverse]
theorem encB_R (l : List Int) : encB norm nn N f l = nbits nn (encR norm nn N f l).1 ++ (encR norm nn N f l).2.reverse.flatMap gB := by
  unfold encB bitsF
  rw [encF_R, ← uptoG_map, List.flatMap_map]
end
section
variable {norm : List Int} {nn N : Nat} {f : Nat → Nat} (hM : NmOk norm nn N f)
include hM
theorem encR_lt : ∀ l : List Int, (∀ s ∈ l, badS norm s = false) → (encR norm nn N f l).1 < N
  | [], _ => by rw [← hM.hN]; exact Nat.two_pow_pos _
  | s :: t, h => encE_lt hM (encR_lt t fun x hx => h x (List.mem_cons_of_mem _ hx)) (h s (List.mem_cons_self ..))
theorem dc_back (L : List Bool) : ∀ (t : List Int) (p : Nat) (out : List Int), (∀ s ∈ t, badS norm s = false) → p ≤ L.length → L.drop p = (encR norm nn N f t).2.reverse.flatMap gB → dcL (pack L) norm nn N f t.length (encR norm nn N f t).1 p out = (out ++ t, 0) := by
  intro t
  induction t with
  | nil =>
    intro p out _ hp hL
    have hlen : L.length = p := by
      have := congrArg List.length hL
      rw [List.length_drop] at this
      simp [encR] at this
      omega
    have hv : pkv (pack L) p (8 * (pack L).length - p) = 0 := by
      unfold pkv
      rw [vb_pack, ← bv_drop, hL]
      simp [encR, bv]
    rw [List.length_nil, dcL, if_pos ⟨rfl, by rw [pack_length]; omega, hv⟩, List.append_nil]
  | cons s t ih =>
    intro p out hb hp hL
    have hbt : ∀ x ∈ t, badS norm x = false := fun x hx => hb x (List.mem_cons_of_mem _ hx)
    have hbd := bad_not (hb s (List.mem_cons_self ..))
    obtain ⟨y, rfl⟩ : ∃ y : Nat, s = (y : Int) := ⟨s.toNat, by omega⟩
    have hpos := hM.pos y (by omega)
    have hc := hM.cnt y (by omega)
    obtain ⟨m, hm⟩ : ∃ m : Nat, norm.getD y 0 = (m : Int) := ⟨(norm.getD y 0).toNat, by omega⟩
    rw [hm] at hpos hc
    have h0 := hbd.2.2
    rw [Int.toNat_natCast, hm] at h0
    have hN := hM.hN
    have hx := encR_lt hM t hbt
    have e1 : encR norm nn N f ((y : Int) :: t) = encE norm nn N f (encR norm nn N f t) (y : Int) := rfl
    rw [e1] at hL ⊢
    have e2 : ∀ p out, _ := ih
    obtain ⟨x, gs, hR⟩ : ∃ x gs, encR norm nn N f t = (x, gs) := ⟨_, _, rfl⟩
    rw [hR] at hL hx e2 ⊢
    have hx : x < N := hx
    obtain ⟨K, hK⟩ : ∃ K, bL m (x + N) (nn + 1) 0 = K := ⟨_, rfl⟩
    have hbf := back_fwd (n := nn) (m := m) (x := x) (k := K) (by omega) (by omega) (by omega) (by rw [hN]; exact hK)
    rw [hN] at hbf
    obtain ⟨b1, b2, b3, b4, b5⟩ := hbf
    have hst := st_back (f := f) (N := N) (s := y) (i := (x + N) / 2 ^ K - m) (by omega)
    have e3 : encE norm nn N f (x, gs) (y : Int) = ((stF f N y).getD ((x + N) / 2 ^ K - m) 0, gs ++ [((((x + N) % 2 ^ K : Nat) : Int), (K : Int))]) := by
      unfold encE
      rw [Int.toNat_natCast, hm, Int.toNat_natCast, hK]
    rw [e3] at hL ⊢
    obtain ⟨z, hz⟩ : ∃ z, (stF f N y).getD ((x + N) / 2 ^ K - m) 0 = z := ⟨_, rfl⟩
    rw [hz] at hst ⊢
    obtain ⟨s1, s2, s3⟩ := hst
    have hL : L.drop p = nbits K ((x + N) % 2 ^ K) ++ gs.reverse.flatMap gB := by
      rw [hL]
      show (gs ++ [((((x + N) % 2 ^ K : Nat) : Int), (K : Int))]).reverse.flatMap gB = _
      rw [List.reverse_append, List.reverse_singleton, List.singleton_append, List.flatMap_cons]
      unfold gB
      rw [Int.toNat_natCast, Int.toNat_natCast]
    have hlen : p + K ≤ L.length := by
      have := congrArg List.length hL
      rw [List.length_drop, List.length_append, nbits_length] at this
      omega
    have hpk : pkv (pack L) p K = (x + N) % 2 ^ K := by
      unfold pkv
      rw [vb_pack, ← bv_drop, hL, bv_append, nbits_length, bv_nbits, Nat.add_mul_mod_self_left, Nat.mod_mod, Nat.mod_mod]
    have hdr : L.drop (p + K) = gs.reverse.flatMap gB := by
      rw [← List.drop_drop, hL, List.drop_left' (nbits_length _ _)]
    have ey : m + ((x + N) / 2 ^ K - m) = (x + N) / 2 ^ K := by omega
    show dcL (pack L) norm nn N f (t.length + 1) z p out = _
    rw [dcL, s2, s3, hm, Int.toNat_natCast, ey, b4, hpk, b5, if_pos (by rw [pack_length]; omega)]
    have := e2 (p + K) (out ++ [(y : Int)]) hbt hlen hdr
    rw [this, List.append_assoc]; rfl
theorem encB_len {l : List Int} (hb : l.any (badS norm) = false) : (encB norm nn N f l).length ≤ 12 + 12 * l.length := by
  have h12 := hM.n12
  unfold encB
  by_cases h : 0 < l.length
  · have hg := (encF_ok hM hb (upto l l.length) (.inl h)).2
    have hlen : (encF norm nn N f l (upto l l.length)).2.length = l.length := by rw [encF_len, upto_length]
    have := bitsF_len hg (by rw [hlen]; exact h) (nbits nn (encF norm nn N f l (upto l l.length)).1) (uptoG (encF norm nn N f l (upto l l.length)).2 (encF norm nn N f l (upto l l.length)).2.length)
    rw [nbits_length, uptoG_length, hlen] at this
    rw [hlen]
    omega
  · obtain rfl : l = [] := List.length_eq_zero_iff.1 (by omega)
    have : (nbits nn 0).length = nn := nbits_length _ _
    show (nbits nn 0 ++ []).length ≤ 12 + 12 * 0
    rw [List.append_nil]; omega
theorem dcT_back {l : List Int} (hb : l.any (badS norm) = false) (hl : l.length ≤ 1048576) : dcT (pack (encB norm nn N f l)) (l.length : Int) norm nn N f = (l, 0) := by
  have hbd : ∀ s ∈ l, badS norm s = false := fun s hs => any_mem hb hs
  have hx := encR_lt hM l hbd
  obtain ⟨L, hLe⟩ : ∃ L, encB norm nn N f l = L := ⟨_, rfl⟩
  have hL := encB_R norm nn N f l
  rw [hLe] at hL ⊢
  have hlen : nn ≤ L.length := by rw [hL, List.length_append, nbits_length]; omega
  have hp : pkv (pack L) 0 nn = (encR norm nn N f l).1 := by
    unfold pkv
    rw [vb_pack, Nat.pow_zero, Nat.div_one, hL, bv_append, nbits_length, bv_nbits, Nat.add_mul_mod_self_left, Nat.mod_mod, hM.hN, Nat.mod_eq_of_lt hx]
  have hd : L.drop nn = (encR norm nn N f l).2.reverse.flatMap gB := by rw [hL, List.drop_left' (nbits_length _ _)]
  unfold dcT
  rw [if_neg (by omega), if_pos (by rw [pack_length]; omega), Int.toNat_natCast, hp]
  exact dc_back hM L l nn [] hbd hlen hd
end
/-- What Encode gives, Decode takes back. -/
theorem tans_back {l norm : List Int} {n : Int} (h : chkT norm n = 0) (hb : l.any (badS norm) = false) (hl : l.length ≤ 1048576) : (encT l norm n).2 = 0 ∧ decT (encT l norm n).1 (l.length : Int) norm n = (l, 0) ∧ (encT l norm n).1.size ≤ 12 + 12 * l.length := by
  have e : encT l norm n = (bstr (encB norm n.toNat (2 ^ n.toNat) (syF n.toNat (nl norm)) l), 0) := by
    unfold encT
    rw [if_neg (not_not_intro h), if_neg (by omega), if_neg (by rw [hb]; decide)]
  have hn := (chk0 h).1
  obtain ⟨nn, rfl⟩ : ∃ nn : Nat, n = (nn : Int) := ⟨n.toNat, by omega⟩
  rw [e]
  refine ⟨rfl, ?_, ?_⟩
  · unfold decT
    rw [if_neg (not_not_intro h), nb_bstr, Int.toNat_natCast]
    exact dcT_back (nm_ok h) hb hl
  · show (bstr (encB norm nn (2 ^ nn) (syF nn (nl norm)) l)).size ≤ _
    have := encB_len (nm_ok h) hb
    rw [← nb_length, nb_bstr, pack_length]
    omega
end Go.Proofs.Ytoondlhlcmjniaa.Pure
