/- What lzw.Encode gives is decoded as it was, plainly. -/
import Derived.Test.YtnmggblhbodfgaaPureLzS
import Derived.Test.YtnmggblhbodfgaaPx10
set_option linter.unusedVariables false
set_option linter.unusedSimpArgs false
set_option linter.unusedSectionVars false
namespace Go.Proofs.Ytnmggblhbodfgaa.Pure
open Go.RowKit Go.Proofs.YtnmggblhbodfgaaW.PrintWords Go.Proofs.YtnmggblhbodfgaaW.PrintMore Go.Proofs.Ytnmggblhbodfgaa.P Go.Proofs.Ytnmggblhbodfgaa.Com Go.Proofs.Ytnmggblhbodfgaa.Hd
theorem enc_pre (room : Nat) : ∀ (t : List Nat) (at_ : Option Nat) (D : List (Nat × Nat)) (out : List Bool), ∃ r, enc room t at_ D out = out ++ r ∧ r.length ≤ 56 * (t.length + 1) := by
  have hp : ∀ (out : List Bool) (x n : Int), ∃ r, (rput out x n).1 = out ++ r ∧ r.length ≤ 56 := by
    intro out x n
    unfold rput
    cases h : okP x n with
    | false => exact ⟨[], by simp, by simp⟩
    | true =>
      have := of_decide_eq_true h
      exact ⟨nbits n.toNat x.toNat, by simp, by rw [nbits_length]; omega⟩
  intro t
  induction t with
  | nil =>
    intro at_ D out
    cases at_ with
    | none => exact ⟨[], by rw [enc]; simp, by simp⟩
    | some a =>
      rw [enc]
      obtain ⟨r, h1, h2⟩ := hp out a (wd (256 + D.length))
      exact ⟨r, h1, by simp; omega⟩
  | cons c t ih =>
    intro at_ D out
    cases at_ with
    | none =>
      rw [enc]
      obtain ⟨r, h1, h2⟩ := ih (some c) D out
      exact ⟨r, h1, by rw [List.length_cons]; omega⟩
    | some a =>
      rw [enc]
      split
      · obtain ⟨r, h1, h2⟩ := ih (some (256 + D.idxOf (a, c))) D out
        exact ⟨r, h1, by rw [List.length_cons]; omega⟩
      · obtain ⟨r, h1, h2⟩ := hp out a (wd (256 + D.length))
        obtain ⟨r', h3, h4⟩ := ih (some c) (grD room D (a, c)) (rput out a (wd (256 + D.length))).1
        refine ⟨r ++ r', by rw [h3, h1, List.append_assoc], ?_⟩
        rw [List.length_append, List.length_cons]; omega
/-- What follows a row that is written. -/
def encT (room : Nat) (t2 : List Nat) (a : Nat) (D : List (Nat × Nat)) (out : List Bool) : List Bool :=
  match t2 with
  | [] => (rput out a (wd (256 + D.length))).1
  | c :: u => enc room u (some c) (grD room D (a, c)) (rput out a (wd (256 + D.length))).1
theorem enc_tok (room : Nat) : ∀ (t : List Nat) (a : Nat) (D : List (Nat × Nat)) (out : List Bool), DOk D → a < 256 + D.length →
    ∃ (a' : Nat) (t2 : List Nat), row D a ++ t = row D a' ++ t2 ∧ a' < 256 + D.length ∧ t2.length ≤ t.length ∧ (∀ c u, t2 = c :: u → (a', c) ∉ D) ∧ enc room t (some a) D out = encT room t2 a' D out := by
  intro t
  induction t with
  | nil =>
    intro a D out hD ha
    exact ⟨a, [], rfl, ha, Nat.le_refl _, by simp, by rw [enc]; rfl⟩
  | cons c t ih =>
    intro a D out hD ha
    by_cases hin : (a, c) ∈ D
    · have hi := List.idxOf_lt_length_iff.2 hin
      have hg : D[D.idxOf (a, c)]? = some (a, c) := by rw [List.getElem?_eq_getElem hi, List.getElem_idxOf hi]
      have hr := row_step hD _ _ hg
      obtain ⟨a', t2, h1, h2, h3, h4, h5⟩ := ih (256 + D.idxOf (a, c)) D out hD (by omega)
      refine ⟨a', t2, ?_, h2, by rw [List.length_cons]; omega, h4, by rw [enc, if_pos hin]; exact h5⟩
      rw [← h1, hr]
      simp
    · refine ⟨a, c :: t, rfl, ha, Nat.le_refl _, fun c' u e => by injection e with e1 _; subst e1; exact hin, by rw [enc, if_neg hin]; rfl⟩
theorem okp {n a : Nat} (h1 : 1 ≤ n) (h2 : n ≤ 4294967296) (ha : a < n) (out : List Bool) : (rput out (a : Int) ((wd n : Nat) : Int)).1 = out ++ nbits (wd n) a := by
  have hw := wd_le n h2
  have hl := wd_lt n h1
  unfold rput
  have : okP (a : Int) ((wd n : Nat) : Int) = true := by
    refine decide_eq_true ⟨by omega, by omega, ?_⟩
    rw [Int.toNat_natCast]
    have : (a / 2 ^ wd n : Nat) = 0 := Nat.div_eq_of_lt (by omega)
    have h2 : (((a / 2 ^ wd n : Nat)) : Int) = 0 := by rw [this]; rfl
    simpa using h2
  rw [this, if_pos rfl, Int.toNat_natCast, Int.toNat_natCast]
theorem encT_split {room : Nat} {t2 : List Nat} {a : Nat} {D : List (Nat × Nat)} {out : List Bool} (ha : a < 256 + D.length) (hd : 256 + D.length ≤ 4294967296) : ∃ r, encT room t2 a D out = out ++ nbits (wd (256 + D.length)) a ++ r := by
  cases t2 with
  | nil => exact ⟨[], by rw [encT, okp (by omega) hd ha]; simp⟩
  | cons c u =>
    rw [encT, okp (by omega) hd ha]
    obtain ⟨r, h, _⟩ := enc_pre room u (some c) (grD room D (a, c)) (out ++ nbits (wd (256 + D.length)) a)
    exact ⟨r, h⟩
/-- A word of bits is taken as it was put. -/
theorem take_put {out r L : List Bool} {n a : Nat} (hL : L = out ++ nbits (wd n) a ++ r) (h1 : 1 ≤ n) (h2 : n ≤ 4294967296) (ha : a < n) : rtake (pack L) out.length ((wd n : Nat) : Int) = ((a : Int), 0, ((out.length + wd n : Nat) : Int)) := by
  have hw := wd_le n h2
  have hl := wd_lt n h1
  unfold rtake
  have hin : inW ((wd n : Nat) : Int) = true := decide_eq_true (by omega)
  have hlen : L.length = out.length + wd n + r.length := by rw [hL]; simp [nbits_length, Nat.add_assoc]
  rw [hin, if_pos rfl, Int.toNat_natCast, if_pos (by rw [pack_length]; omega)]
  unfold pkv
  rw [vb_pack, ← bv_drop, hL, List.append_assoc, List.drop_left, bv_append, nbits_length, bv_nbits, Nat.add_mul_mod_self_left, Nat.mod_mod, Nat.mod_eq_of_lt (by omega)]
/-- What the rows are, where a row begins with a byte. -/
structure BRel (room : Nat) (rows : List ByteArray) (last : ByteArray) (D : List (Nat × Nat)) (c : Nat) : Prop where
  ex : ∃ Dp, DOk Dp ∧ rows.map nb = R Dp ∧ ((last.size = 0 ∧ D = Dp) ∨ ∃ ap, ap < 256 + Dp.length ∧ nb last = row Dp ap ∧ (ap, c) ∉ Dp ∧ D = grD room Dp (ap, c))
theorem nxt_back {room : Nat} {rows : List ByteArray} {last : ByteArray} {D : List (Nat × Nat)} {c a p p' : Nat} {B u t2 : List Nat} (hR : BRel room rows last D c) (hc : c < 256) (ha : a < 256 + D.length) (hrow : c :: u = row D a ++ t2)
    (hT : rtake B p ((wd (256 + D.length) : Nat) : Int) = ((a : Int), 0, (p' : Int))) : ∃ rows' now, nxt B room rows last p = ((now, 0), rows', now, (p' : Int)) ∧ DOk D ∧ rows'.map nb = R D ∧ nb now = row D a := by
  obtain ⟨Dp, hD, hl, h⟩ := hR.ex
  have hlen := l_len hl
  have hplain : wtB room rows last = false → D = Dp → ∃ rows' now, nxt B room rows last p = ((now, 0), rows', now, (p' : Int)) ∧ DOk D ∧ rows'.map nb = R D ∧ nb now = row D a := by
    intro hw e
    subst e
    refine ⟨rows, rows.getD a ⟨#[]⟩, ?_, hD, hl, nb_getD hl a⟩
    unfold nxt
    simp only [hw, Bool.toNat_false, Nat.add_zero, hlen, hT, Int.toNat_natCast]
    rw [if_neg (by simp), if_neg (by omega)]
    simp
  rcases h with ⟨h0, e⟩ | ⟨ap, hap, hnl, hnin, e⟩
  · exact hplain (decide_eq_false (fun h => h.1 h0)) e
  · have hls : last.size ≠ 0 := by
      have := (row_pos hD hap).1
      rw [← hnl, nb_length] at this
      omega
    by_cases hr : 256 + Dp.length < room
    · have e2 : D = Dp ++ [(ap, c)] := by rw [e]; unfold grD; rw [if_pos hr]
      have hw : wtB room rows last = true := decide_eq_true ⟨hls, by omega⟩
      have hDD : DOk D := by rw [e2]; exact hD.snoc hnin hap hc
      have hDl : D.length = Dp.length + 1 := by rw [e2]; simp
      have hlast1 := (row_pos hD hap).1
      have hhead : nb ((if a < rows.length then rows.getD a ⟨#[]⟩ else last).extract 0 1) = [c] := by
        rw [nb_extract, List.drop_zero]
        by_cases hal : a < rows.length
        · rw [if_pos hal, nb_getD hl a]
          rw [e2, row_snoc_lt (by omega)] at hrow
          have := (row_pos hD (i := a) (by omega)).1
          cases hra : row Dp a with
          | nil => rw [hra] at this; simp at this
          | cons y v =>
            rw [hra] at hrow
            injection hrow with e3 _
            rw [e3]; rfl
        · rw [if_neg hal, hnl]
          have hae : a = 256 + Dp.length := by omega
          rw [e2, hae, row_snoc_eq] at hrow
          cases hra : row Dp ap with
          | nil => rw [hra] at hlast1; simp at hlast1
          | cons y v =>
            simp only [hra] at hrow
            injection hrow with e3 _
            rw [e3]; rfl
      have hrows : (rows ++ [last ++ (if a < rows.length then rows.getD a ⟨#[]⟩ else last).extract 0 1]).map nb = R D := by
        rw [List.map_append, hl, List.map_singleton, nb_append, hhead, hnl, e2, R_snoc]
      refine ⟨rows ++ [last ++ (if a < rows.length then rows.getD a ⟨#[]⟩ else last).extract 0 1], (rows ++ [last ++ (if a < rows.length then rows.getD a ⟨#[]⟩ else last).extract 0 1]).getD a ⟨#[]⟩, ?_, hDD, hrows, nb_getD hrows a⟩
      have hn : rows.length + 1 = 256 + D.length := by omega
      unfold nxt
      simp only [hw, Bool.toNat_true, hn, hT, Int.toNat_natCast, if_true]
      rw [if_neg (by simp), if_neg (by omega)]
    · have e2 : D = Dp := by rw [e]; unfold grD; rw [if_neg hr]
      exact hplain (decide_eq_false (fun h => by have := h.2; omega)) e2
theorem end_done {L : List Bool} : ¬ (8 ≤ 8 * (pack L).length - L.length ∨ rpeek (pack L) L.length ((8 * (pack L).length - L.length : Nat) : Int) ≠ 0) := by
  have hpl := pack_length L
  rintro (h | h)
  · omega
  · apply h
    unfold rpeek
    split
    · unfold pkv
      rw [vb_pack, ← bv_drop, List.drop_length]
      simp [bv]
    · rfl
theorem back_main (room : Nat) (s : ByteArray) (hs : s.size ≤ 6000) (L : List Bool) : ∀ (N : Nat) (u : List Nat) (c : Nat) (D : List (Nat × Nat)) (out : List Bool) (rows : List ByteArray) (last outB : ByteArray) (q : Nat), u.length < N → BRel room rows last D c → DOk D → (∀ x ∈ c :: u, x < 256) → L = enc room u (some c) D out →
    nb s = nb outB ++ c :: u → s.size ≤ outB.size + q → D.length ≤ outB.size → dec (pack L) room s.size q rows last out.length outB = (s, 0) := by
  intro N
  induction N with
  | zero => intro u c D out rows last outB q h; omega
  | succ N ih =>
    intro u c D out rows last outB q hu hR hDok hc hL hns hq hdl
    have hsz : s.size = outB.size + (u.length + 1) := by rw [← nb_length, hns, List.length_append, nb_length, List.length_cons]
    have hc1 := hc c List.mem_cons_self
    obtain ⟨q, rfl⟩ : ∃ q', q = q' + 1 := ⟨q - 1, by omega⟩
    obtain ⟨a, t2, h1, h2, h3, h4, h5⟩ := enc_tok room u c D out hDok (by omega)
    rw [row_one hc1] at h1
    have h1 : c :: u = row D a ++ t2 := h1
    obtain ⟨r, hr⟩ := encT_split (room := room) (t2 := t2) (out := out) h2 (by omega)
    have hT := take_put (L := L) (hL.trans (h5.trans hr)) (by omega) (by omega) h2
    obtain ⟨rows', now, hn, hD, hl, hnow⟩ := nxt_back hR hc1 h2 h1 hT
    have hnl : now.size = (row D a).length := by rw [← nb_length, hnow]
    have hrl : (row D a).length + t2.length = u.length + 1 := by
      have := congrArg List.length h1
      rw [List.length_cons, List.length_append] at this
      omega
    have hpos := (row_pos hD h2).1
    rw [dec_more (by omega), hn]
    simp only
    rw [if_neg (by simp), if_neg (by omega), Int.toNat_natCast]
    have hns2 : nb s = nb (outB ++ now) ++ t2 := by rw [nb_append, hnow, List.append_assoc, ← h1]; exact hns
    cases ht2 : t2 with
    | nil =>
      rw [ht2] at hns2 h5
      have hL2 : L = out ++ nbits (wd (256 + D.length)) a := by rw [hL, h5, encT, okp (by omega) (by omega) h2]
      have hlen : out.length + wd (256 + D.length) = L.length := by rw [hL2, List.length_append, nbits_length]
      rw [List.append_nil] at hns2
      have hse := nb_inj hns2
      rw [dec_done (by rw [hse]; exact Nat.le_refl _), hlen, if_neg end_done, hse]
    | cons c2 u2 =>
      rw [ht2] at hns2 h5 hrl
      rw [List.length_cons] at hrl
      have hcin := h4 c2 u2 ht2
      have hc2 : ∀ x ∈ c2 :: u2, x < 256 := by
        intro x hx
        refine hc x ?_
        rw [h1, ht2]
        exact List.mem_append.2 (.inr hx)
      have hout : out.length + wd (256 + D.length) = (rput out (a : Int) ((wd (256 + D.length) : Nat) : Int)).1.length := by rw [okp (by omega) (by omega) h2, List.length_append, nbits_length]
      rw [hout]
      have hg := grD_len room D (a, c2)
      refine ih u2 c2 (grD room D (a, c2)) _ rows' now (outB ++ now) q (by omega) ⟨D, hD, hl, .inr ⟨a, h2, hnow, hcin, rfl⟩⟩ (grD_ok hD hcin h2 (hc2 c2 List.mem_cons_self)) hc2 (by rw [hL, h5, encT]) hns2 (by rw [ByteArray.size_append]; omega) (by rw [ByteArray.size_append]; omega)
theorem LzwBack : gladstonelaw60_LzwBack.Pure := by
  intro s z _ hz
  have hw0 : 0 ≤ z ∧ z ≤ 255 := by
    simp [Lit.wf, IntKind.min, IntKind.max, IntKind.bits, IntKind.signed] at hz
    omega
  unfold gladstonelaw60_LzwBack.f
  by_cases hbig : (s.size : Int) > 6000
  · rw [if_pos hbig, awake_true]; rfl
  rw [if_neg hbig]
  have hsz : s.size ≤ 6000 := by omega
  have h3 : wrap64 (wrap64 (Int.tmod z 8) + 9) = ((z.toNat % 8 + 9 : Nat) : Int) := by
    rw [Int.tmod_eq_emod_of_nonneg hw0.1, w64 (x := z % 8) (by omega) (by omega), w64 (by omega) (by omega)]
    omega
  rw [h3]
  obtain ⟨n, hn⟩ : ∃ n, z.toNat % 8 + 9 = n := ⟨_, rfl⟩
  rw [hn]
  have e1 : lzw_Encode.f s (n : Int) = some (bstr (enc (2 ^ n) (nb s) none [] []), 0) := by unfold lzw_Encode.f; rw [if_neg (by omega), if_pos (by omega), Int.toNat_natCast]
  have e2 : lzw_Decode.f (bstr (enc (2 ^ n) (nb s) none [] [])) (s.size : Int) (n : Int) = some (s, 0) := by
    obtain ⟨L, hL⟩ : ∃ L, enc (2 ^ n) (nb s) none [] [] = L := ⟨_, rfl⟩
    obtain ⟨r, hr, hrl⟩ := enc_pre (2 ^ n) (nb s) none [] []
    rw [hL, List.nil_append] at hr
    subst hr
    rw [nb_length] at hrl
    unfold lzw_Decode.f
    rw [hL, if_neg (by omega), if_pos (by rw [bstr_size]; omega), nb_bstr, Int.toNat_natCast, Int.toNat_natCast]
    congr 1
    cases hs : nb s with
    | nil =>
      have h0 : s = ⟨#[]⟩ := nb_inj (by rw [hs]; rfl)
      rw [hs] at hL
      have : L = [] := by rw [← hL]; rfl
      rw [this, dec_done (by rw [h0]; exact Nat.le_refl _), h0]
      exact if_neg (end_done (L := []))
    | cons c u =>
      rw [hs] at hL
      refine back_main (2 ^ n) s hsz L (u.length + 1) u c [] [] rows0 ⟨#[]⟩ ⟨#[]⟩ s.size (by omega) ⟨[], DOk.nil, rows0_nb, .inl ⟨rfl, rfl⟩⟩ DOk.nil (by rw [← hs]; exact nb_lt s) (by rw [← hL, enc]) (by rw [hs]; rfl) (by omega) (by simp)
  rw [e1]
  simp only [Option.bind_some]
  rw [e2]
  simp only [Option.bind_some]
  rw [if_pos trivial, if_pos trivial, if_pos trivial, awake_true]
  rfl
end Go.Proofs.Ytnmggblhbodfgaa.Pure
