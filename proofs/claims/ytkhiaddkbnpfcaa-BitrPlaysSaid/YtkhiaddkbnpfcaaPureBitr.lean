/- The plain laws of chapter 2 (bits that are read). -/
import Derived.Test.YtkhiaddkbnpfcaaBtRd
import Derived.Test.YtkhiaddkbnpfcaaBtPut
import Derived.Test.YtkhiaddkbnpfcaaHNew
set_option linter.unusedVariables false
set_option linter.unusedSimpArgs false
set_option linter.unusedSectionVars false
namespace Go.Proofs.Ytkhiaddkbnpfcaa.Pure
open Go.RowKit Go.Proofs.YtkhiaddkbnpfcaaW.PrintWords Go.Proofs.YtkhiaddkbnpfcaaW.PrintMore Go.Proofs.Ytkhiaddkbnpfcaa.Hd Go.Proofs.Ytkhiaddkbnpfcaa.P Go.Proofs.Ytkhiaddkbnpfcaa.Com

theorem zs_zb (B : List Nat) : zs B = zb B := rfl
theorem bytesOf_nb (s : ByteArray) : bytesOf s = zs (nb s) := by simp [bytesOf, zs, nb, List.map_map, Function.comp_def]
theorem new_f (s : ByteArray) (h : s.size ≤ 1099511627776) : bitr_New.f s = some (zs (nb s), 0) := by
  unfold bitr_New.f
  rw [if_pos (by omega), bytesOf_nb]
theorem rnew_ev (s : ByteArray) (h : s.size ≤ 1099511627776) : Ev (fun k => gladstoneref02_New.f k s) (bb (nb s), 0) := by
  unfold gladstoneref02_New.f
  exact Ev.bind (bits_ev s h) (Ev.now _)

section
variable (B : List Nat) (hB : ∀ x ∈ B, x < 256) (hl : B.length ≤ 1099511627776) (p : Nat) (hp : p ≤ 8 * B.length) (a : Int)
include hB hl hp
theorem rpeek_ev : Ev (fun k => gladstoneref02_Peek.f k (bb B) (p : Int) a) (rpeek B p a) := by
  unfold gladstoneref02_Peek.f rpeek inW
  have hlen := bb_length B
  by_cases h1 : a < 0
  · refine Ev.ifp h1 ?_
    rw [decide_eq_false (by omega)]
    exact Ev.now _
  · refine Ev.ifn h1 ?_
    by_cases h2 : a > 56
    · refine Ev.ifp h2 ?_
      rw [decide_eq_false (by omega)]
      exact Ev.now _
    · refine Ev.ifn h2 (Ev.ifp (by omega) (Ev.ifp (by omega) ?_))
      rw [decide_eq_true (by omega), if_pos rfl]
      obtain ⟨n, rfl⟩ : ∃ n : Nat, a = n := ⟨a.toNat, by omega⟩
      refine Ev.bind (word_ev _ n (by omega)) (Ev.some ?_)
      rw [bv_take, Int.toNat_natCast, bv_drop, bv_bb B hB, Int.toNat_natCast]
      rfl
theorem reftake_ev : Ev (fun k => gladstoneref02_Take.f k (bb B) (p : Int) a) (bb B, (rtake B p a).2.2, (rtake B p a).1, (rtake B p a).2.1) := by
  have hlen := bb_length B
  have he : ∀ k, gladstoneref02_Take.f k (bb B) (p : Int) a = gladstoneref02_Take.j0 k a (!inW a) (bb B) (p : Int) := by
    intro k
    unfold gladstoneref02_Take.f inW
    by_cases h : a < 0
    · rw [if_pos h, decide_eq_false (by omega)]; rfl
    · rw [if_neg h]
      congr 1
      rw [Bool.eq_iff_iff]; simp; omega
  refine Ev.congr he ?_
  unfold rtake
  cases hw : inW a with
  | false => exact Ev.step (f := fun _ => some (bb B, (p : Int), 0, 2)) (fun k => by simp only [gladstoneref02_Take.j0]; rw [if_pos (by simp)]) (Ev.some (by simp))
  | true =>
    have hw2 := hw
    simp only [inW, decide_eq_true_eq] at hw2
    simp only [if_true]
    refine Ev.step (fun k => by simp only [gladstoneref02_Take.j0]; rw [if_neg (by simp), w64 (x := ((bb B).length : Int) - (p : Int)) (by omega) (by omega)]) ?_
    by_cases h : p + a.toNat ≤ 8 * B.length
    · rw [if_pos h]
      refine Ev.ifn (by omega) (Ev.bind (rpeek_ev B hB hl p hp a) (Ev.some ?_))
      unfold rpeek
      rw [hw, if_pos rfl, w64 (by omega) (by omega)]
      have e : ((p + a.toNat : Nat) : Int) = (p : Int) + a := by omega
      rw [e]
    · rw [if_neg h]
      exact Ev.ifp (by omega) (Ev.now _)
end
theorem ralign_l0 (L : List Bool) (d : Nat) : ∀ p c : Nat, up8 p = d → p ≤ 17592186044416 → c + d ≤ 8 → Ev (fun k => gladstoneref02_Align.l0 k (c : Int) L (p : Int)) (L, ((p + d : Nat) : Int), ((c + d : Nat) : Int)) := by
  induction d with
  | zero =>
    intro p c hd hp hc
    refine Ev.step (f := fun _ => some (L, (p : Int), (c : Int))) (fun k => ?_) (Ev.now _)
    simp only [gladstoneref02_Align.l0]
    unfold up8 at hd
    rw [if_pos (by rw [Int.tmod_eq_emod_of_nonneg (by omega)]; omega)]
  | succ d ih =>
    intro p c hd hp hc
    unfold up8 at hd
    have h := ih (p + 1) (c + 1) (by unfold up8; omega) (by omega) (by omega)
    have e : c + (d + 1) = c + 1 + d := by omega
    have e2 : p + (d + 1) = p + 1 + d := by omega
    rw [e, e2]
    refine Ev.step (fun k => ?_) h
    simp only [gladstoneref02_Align.l0]
    rw [if_neg (by rw [Int.tmod_eq_emod_of_nonneg (by omega)]; omega), w64 (by omega) (by omega), w64 (by omega) (by omega)]
    rfl
theorem ralign_ev (L : List Bool) (p : Nat) (hp : p ≤ 8796093022208) : Ev (fun k => gladstoneref02_Align.f k L (p : Int)) (L, ((p + up8 p : Nat) : Int), ((up8 p : Nat) : Int)) := by
  have h := ralign_l0 L (up8 p) p 0 rfl (by omega) (by unfold up8; omega)
  rw [Nat.zero_add] at h
  exact h

/-- A deed: both answer alike, and are at the same place. -/
theorem do_ev (B : List Nat) (hB : ∀ x ∈ B, x < 256) (hl : B.length ≤ 1099511627776) (p : Nat) (hp : p ≤ 8 * B.length) (kind n : Int) :
    ∃ q : Nat, q ≤ 8 * B.length ∧ Ev (fun k => gladstonelaw02_do.f k (zs B) (p : Int) (bb B) (p : Int) kind n) (bb B, (q : Int), true, (q : Int)) := by
  obtain ⟨q, hq, hq2⟩ := rtake_at B p hp n
  have hT := take_ev B hB hl p hp n
  have hR := reftake_ev B hB hl p hp n
  unfold gladstonelaw02_do.f
  by_cases h0 : kind = 0
  · refine ⟨q, hq2, Ev.ifp h0 (Ev.bind hR (Ev.bind hT (Ev.ifp rfl (Ev.some ?_))))⟩
    dsimp only
    rw [hq]; simp
  · by_cases h1 : kind = 1
    · refine ⟨p, hp, Ev.ifn h0 (Ev.ifp h1 (Ev.bind (peek_ev B hB hl p hp n) (Ev.bind (rpeek_ev B hB hl p hp n) (Ev.some ?_))))⟩
      simp
    · by_cases h2 : kind = 2
      · refine ⟨q, hq2, Ev.ifn h0 (Ev.ifn h1 (Ev.ifp h2 (Ev.bind hR (Ev.bind (skip_ev B hl p hp n) (Ev.some ?_)))))⟩
        have e : rskip B p n = ((rtake B p n).2.1, (rtake B p n).2.2) := by
          unfold rskip rtake
          split
          · split <;> rfl
          · rfl
        rw [e]
        dsimp only
        rw [hq]; simp
      · refine ⟨p + up8 p, up8_le p _ hp, Ev.ifn h0 (Ev.ifn h1 (Ev.ifn h2 (Ev.bind (ralign_ev (bb B) p (by omega)) ?_)))⟩
        rw [align_f B hl p hp]
        refine Ev.bind (Ev.now _) (Ev.some ?_)
        simp

theorem awake_ev : Ev (fun k => gladstonelaw02_awake.f k) true := Ev.of (fun k => gladstonelaw02_awake.mono k) (k := 30) (by decide +kernel)
theorem awake_ev' : Ev (fun k => (gladstonelaw02_awake.f k).bind fun t => some t) true := Ev.bind (f := fun _ t => some t) awake_ev (Ev.now _)

theorem plays_l0 (l : List S33) (hll : l.length ≤ 1000) (B : List Nat) (hB : ∀ x ∈ B, x < 256) (hl : B.length ≤ 1099511627776) : Ev (fun k => gladstonelaw02_BitrPlays.l0 k l 0 (zs B) 0 (bb B) 0) true := by
  have h := Ev.along l (fun k (p : Nat) i => gladstonelaw02_BitrPlays.l0 k l i (zs B) (p : Int) (bb B) (p : Int)) (fun _ _ => true) (fun _ p => p ≤ 8 * B.length) ?_ ?_ 0 0 (Nat.zero_le _) (Nat.zero_le _)
  · exact h
  · intro p hp
    refine Ev.step (fun k => ?_) awake_ev'
    simp only [gladstonelaw02_BitrPlays.l0]
    rw [if_neg (by omega)]
  · intro i p a t hp hd ha hlt ih
    obtain ⟨q, hq, hd⟩ := do_ev B hB hl p hp ((rd_T33 l (i : Int)).f0) ((rd_T33 l (i : Int)).f1)
    refine Ev.step (fun k => by simp only [gladstonelaw02_BitrPlays.l0]; rw [if_pos (by omega), if_pos (by omega)]) (Ev.bind hd (Ev.ifp rfl ?_))
    unfold bitr_Reader_At.f
    refine Ev.bind (Ev.now _) (Ev.ifp rfl ?_)
    rw [left_f B hl q hq]
    refine Ev.bind (Ev.now _) (Ev.ifp ?_ ?_)
    · dsimp only
      rw [bb_length, w64 (by omega) (by omega)]; omega
    · refine Ev.congr (fun k => ?_) (ih q hq)
      dsimp only
      rw [w64 (by omega) (by omega)]
      rfl

theorem BitrPlays_ev (s : ByteArray) (l : List S33) : Ev (fun k => gladstonelaw02_BitrPlays.f k s l) true := by
  have he : ∀ k, gladstonelaw02_BitrPlays.f k s l = gladstonelaw02_BitrPlays.j0 k s l (decide (s.size > 200 ∨ l.length > 60)) := by
    intro k
    unfold gladstonelaw02_BitrPlays.f
    by_cases h : (s.size : Int) > 200
    · rw [if_pos h, decide_eq_true (by omega)]
    · rw [if_neg h]
      congr 1
      rw [Bool.eq_iff_iff]; simp; omega
  refine Ev.congr he ?_
  by_cases h : s.size > 200 ∨ l.length > 60
  · rw [decide_eq_true h]
    exact Ev.step (fun k => by simp only [gladstonelaw02_BitrPlays.j0]; rw [if_pos trivial]) awake_ev'
  · rw [decide_eq_false h]
    refine Ev.step (fun k => by simp only [gladstonelaw02_BitrPlays.j0]; rw [if_neg (by simp)]) ?_
    rw [new_f s (by omega)]
    refine Ev.bind (Ev.now _) (Ev.bind (rnew_ev s (by omega)) ?_)
    exact plays_l0 l (by omega) (nb s) (nb_lt s) (by rw [nb_length]; omega)

theorem BitrPlays (s : ByteArray) (_ : s.size ≤ 140737488351232) (l : List S33) : ∃ k, gladstonelaw02_BitrPlays.f k s l = some true := by
  apply Ev.rounds
  exact BitrPlays_ev s l
theorem BitrNone : ∃ k, gladstonelaw02_awake.f k = some true := by
  apply Ev.rounds
  exact awake_ev

/-! ### back -/
section
variable (l0 l1 : List Int)
/-- The width, and the word, of a place. -/
def wd (l1 : List Int) (i : Nat) : Nat := (l1.getD i 0).toNat % 57
def wo (l0 l1 : List Int) (i : Nat) : Nat := (l0.getD i 0).toNat % 2 ^ wd l1 i
def cat (l0 l1 : List Int) : Nat → List Bool
  | 0 => []
  | i + 1 => cat l0 l1 i ++ nbits (wd l1 i) (wo l0 l1 i)
end
theorem wd_lt (l1 : List Int) (i : Nat) : wd l1 i ≤ 56 := by unfold wd; omega
theorem cat_length (l0 l1 : List Int) (i : Nat) : (cat l0 l1 i).length ≤ 56 * i := by
  induction i with
  | zero => simp [cat]
  | succ i ih =>
    have := wd_lt l1 i
    simp only [cat, List.length_append, nbits_length]; omega
theorem cat_split (l0 l1 : List Int) (i m : Nat) (h : i < m) : ∃ r, cat l0 l1 m = cat l0 l1 i ++ (nbits (wd l1 i) (wo l0 l1 i) ++ r) := by
  induction m with
  | zero => omega
  | succ m ih =>
    by_cases hm : i = m
    · subst hm; exact ⟨[], by simp [cat]⟩
    · obtain ⟨r, hr⟩ := ih (by omega)
      exact ⟨r ++ nbits (wd l1 m) (wo l0 l1 m), by simp [cat, hr]⟩
theorem wo_lt (l0 l1 : List Int) (i : Nat) : wo l0 l1 i < 2 ^ wd l1 i := Nat.mod_lt _ (Nat.two_pow_pos _)
theorem cat_word (l0 l1 : List Int) (i m : Nat) (h : i < m) : bv (cat l0 l1 m) / 2 ^ (cat l0 l1 i).length % 2 ^ wd l1 i = wo l0 l1 i := by
  obtain ⟨r, hr⟩ := cat_split l0 l1 i m h
  rw [← bv_drop, ← bv_take, hr, List.drop_left', List.take_left' (nbits_length _ _), bv_nbits, Nat.mod_eq_of_lt (wo_lt _ _ _)]
  rfl
theorem cat_le (l0 l1 : List Int) (i m : Nat) (h : i < m) : (cat l0 l1 i).length + wd l1 i ≤ (cat l0 l1 m).length := by
  obtain ⟨r, hr⟩ := cat_split l0 l1 i m h
  rw [hr]
  simp [nbits_length]

theorem width_eq (x : Int) (h0 : 0 ≤ x) (h1 : x ≤ 255) : wrap64 (Int.tmod x 57) = ((x.toNat % 57 : Nat) : Int) ∧ IntKind.u64.wrap (wrap64 (Int.tmod x 57)) = ((x.toNat % 57 : Nat) : Int) := by
  have e : wrap64 (Int.tmod x 57) = ((x.toNat % 57 : Nat) : Int) := by
    rw [Int.tmod_eq_emod_of_nonneg h0, w64 (by omega) (by omega)]; omega
  refine ⟨e, ?_⟩
  rw [e, wu64 (by omega) (by omega)]
theorem want_eq (x : Int) (h0 : 0 ≤ x) (h1 : x < 18446744073709551616) (n : Nat) (hn : n ≤ 56) : Go.bits .and .u64 x (IntKind.u64.wrap ((shl .u64 1 (n : Int)) - 1)) = ((x.toNat % 2 ^ n : Nat) : Int) := by
  obtain ⟨y, rfl⟩ : ∃ y : Nat, x = y := ⟨x.toNat, by omega⟩
  rw [mask_nat _ (by omega), low_nat _ _ (by omega) (by omega), Int.toNat_natCast]

section
variable (l0 l1 : List Int) (hl : l0.length ≤ 60) (hl1 : l1.length = l0.length) (h0 : ∀ x ∈ l0, 0 ≤ x ∧ x < 18446744073709551616) (h1 : ∀ x ∈ l1, 0 ≤ x ∧ x ≤ 255)
include hl hl1 h0 h1
theorem at0 (i : Nat) (hi : i < l0.length) : 0 ≤ l0.getD i 0 ∧ l0.getD i 0 < 18446744073709551616 := by
  rw [List.getD_eq_getElem?_getD, List.getElem?_eq_getElem hi]
  exact h0 _ (List.getElem_mem hi)
theorem at1 (i : Nat) (hi : i < l0.length) : 0 ≤ l1.getD i 0 ∧ l1.getD i 0 ≤ 255 := by
  rw [List.getD_eq_getElem?_getD, List.getElem?_eq_getElem (by omega)]
  exact h1 _ (List.getElem_mem _)
theorem back_l1 (d : Nat) : ∀ i : Nat, i + d = l0.length → Ev (fun k => gladstonelaw02_BitrBack.l1 k l0 l1 (i : Int) (zs (pack (cat l0 l1 l0.length))) (((cat l0 l1 i).length : Nat) : Int)) true := by
  have hcl := cat_length l0 l1 l0.length
  have hpl := pack_length (cat l0 l1 l0.length)
  have hpk := pack_lt (cat l0 l1 l0.length)
  induction d with
  | zero =>
    intro i hi
    obtain rfl : i = l0.length := by omega
    refine Ev.step (fun k => ?_) awake_ev'
    simp only [gladstonelaw02_BitrBack.l1]
    rw [if_neg (by omega), left_f _ (by omega) _ (by omega), Option.bind_some, if_pos (by dsimp only; omega)]
  | succ d ih =>
    intro i hi
    have ha := at0 l0 l1 hl hl1 h0 h1 i (by omega)
    have hb := at1 l0 l1 hl hl1 h0 h1 i (by omega)
    obtain ⟨ew, ew2⟩ := width_eq _ hb.1 hb.2
    have hn := wd_lt l1 i
    have hle := cat_le l0 l1 i l0.length (by omega)
    have hw := cat_word l0 l1 i l0.length (by omega)
    have hin : inW ((wd l1 i : Nat) : Int) = true := by simp [inW]; omega
    have hcp : (cat l0 l1 i).length ≤ 8 * (pack (cat l0 l1 l0.length)).length := by omega
    have hP := peek_ev _ hpk (by omega) _ hcp ((wd l1 i : Nat) : Int)
    have hT := take_ev _ hpk (by omega) _ hcp ((wd l1 i : Nat) : Int)
    unfold rpeek at hP
    unfold rtake at hT
    rw [hin, if_pos rfl, Int.toNat_natCast] at hP hT
    rw [if_pos (by omega)] at hT
    have hv : pkv (pack (cat l0 l1 l0.length)) (cat l0 l1 i).length (wd l1 i) = wo l0 l1 i := by unfold pkv; rw [vb_pack, hw]
    rw [hv] at hP hT
    have e57 : (l1.getD i 0).toNat % 57 = wd l1 i := rfl
    have ewant := want_eq _ ha.1 ha.2 (wd l1 i) hn
    have ewo : (l0.getD i 0).toNat % 2 ^ wd l1 i = wo l0 l1 i := rfl
    refine Ev.step (fun k => by simp only [gladstonelaw02_BitrBack.l1]; rw [if_pos (by omega), if_pos (by omega), if_pos (by omega), rd_nat, rd_nat, ew2, ew, e57, if_pos (by omega), ewant, ewo]) ?_
    refine Ev.bind hP (Ev.bind hT (Ev.ifp rfl (Ev.ifp rfl (Ev.ifp rfl ?_))))
    have h := ih (i + 1) (by omega)
    have e : (cat l0 l1 (i + 1)).length = (cat l0 l1 i).length + wd l1 i := by simp [cat, nbits_length]
    rw [e] at h
    refine Ev.congr (fun k => ?_) h
    rw [w64 (by omega) (by omega)]
    rfl
theorem back_l0 (d : Nat) : ∀ i : Nat, i + d = l0.length → Ev (fun k => gladstonelaw02_BitrBack.l0 k l0 l1 (cat l0 l1 i) (i : Int)) true := by
  induction d with
  | zero =>
    intro i hi
    obtain rfl : i = l0.length := by omega
    have hcl := cat_length l0 l1 l0.length
    have hsz := bstr_size (cat l0 l1 l0.length)
    refine Ev.step (fun k => by simp only [gladstonelaw02_BitrBack.l0]; rw [if_neg (by omega)]) (Ev.bind (bytes_ev _ (by omega)) ?_)
    rw [new_f _ (by omega), nb_bstr]
    exact Ev.bind (Ev.now _) (back_l1 l0 l1 hl hl1 h0 h1 l0.length 0 (by omega))
  | succ d ih =>
    intro i hi
    have hcl := cat_length l0 l1 i
    have ha := at0 l0 l1 hl hl1 h0 h1 i (by omega)
    have hb := at1 l0 l1 hl hl1 h0 h1 i (by omega)
    obtain ⟨ew, ew2⟩ := width_eq _ hb.1 hb.2
    have hn := wd_lt l1 i
    have e57 : (l1.getD i 0).toNat % 57 = wd l1 i := rfl
    have ewant := want_eq _ ha.1 ha.2 (wd l1 i) hn
    have ewo : (l0.getD i 0).toNat % 2 ^ wd l1 i = wo l0 l1 i := rfl
    have hlt := wo_lt l0 l1 i
    have hp : 2 ^ wd l1 i ≤ 2 ^ 56 := Nat.pow_le_pow_right (by omega) hn
    have hput := rput_ev (cat l0 l1 i) (by omega) ((wo l0 l1 i : Nat) : Int) ((wd l1 i : Nat) : Int) (by omega) (by omega)
    have hok : okP ((wo l0 l1 i : Nat) : Int) ((wd l1 i : Nat) : Int) = true := by
      simp only [okP, decide_eq_true_eq, Int.toNat_natCast]
      refine ⟨by omega, by omega, ?_⟩
      have : (wo l0 l1 i / 2 ^ wd l1 i : Nat) = 0 := Nat.div_eq_of_lt hlt
      have h2 : (((wo l0 l1 i / 2 ^ wd l1 i : Nat)) : Int) = 0 := by rw [this]; rfl
      simpa using h2
    unfold rput at hput
    rw [hok, if_pos rfl, Int.toNat_natCast, Int.toNat_natCast] at hput
    refine Ev.step (fun k => by simp only [gladstonelaw02_BitrBack.l0]; rw [if_pos (by omega), if_pos (by omega), if_pos (by omega), rd_nat, rd_nat, ew2, ew, e57, if_pos (by omega), ewant, ewo]) (Ev.bind hput ?_)
    refine Ev.congr (fun k => ?_) (ih (i + 1) (by omega))
    rw [w64 (by omega) (by omega)]
    rfl
end

theorem BitrBack : gladstonelaw02_BitrBack.Pure := by
  intro l0 l1 _ _ hw0 _ _ hw1
  apply Ev.rounds
  have h0 : ∀ x ∈ l0, 0 ≤ x ∧ x < 18446744073709551616 := by
    intro x hx
    have h := hw0 x hx
    simp [Lit.wf, IntKind.min, IntKind.max, IntKind.bits, IntKind.signed] at h
    omega
  have h1 : ∀ x ∈ l1, 0 ≤ x ∧ x ≤ 255 := by
    intro x hx
    have h := hw1 x hx
    simp [Lit.wf, IntKind.min, IntKind.max, IntKind.bits, IntKind.signed] at h
    omega
  have he : ∀ k, gladstonelaw02_BitrBack.f k l0 l1 = gladstonelaw02_BitrBack.j0 k l0 l1 (decide (l0.length > 60 ∨ l1.length ≠ l0.length)) := by
    intro k
    unfold gladstonelaw02_BitrBack.f
    by_cases h : (l0.length : Int) > 60
    · rw [if_pos h, decide_eq_true (by omega)]
    · rw [if_neg h]
      congr 1
      rw [Bool.eq_iff_iff, bne_iff_ne, decide_eq_true_eq]; omega
  refine Ev.congr he ?_
  by_cases h : l0.length > 60 ∨ l1.length ≠ l0.length
  · rw [decide_eq_true h]
    exact Ev.step (fun k => by simp only [gladstonelaw02_BitrBack.j0]; rw [if_pos trivial]) awake_ev'
  · rw [decide_eq_false h]
    refine Ev.step (fun k => by simp only [gladstonelaw02_BitrBack.j0]; rw [if_neg (by simp)]) ?_
    exact back_l0 l0 l1 (by omega) (by omega) h0 h1 l0.length 0 (by omega)
end Go.Proofs.Ytkhiaddkbnpfcaa.Pure
