/- lzw.Encode gives what the document says, plainly. -/
import Derived.Test.YtnmggblhbodfgaaPureLz
import Derived.Test.YtnmggblhbodfgaaBtPutB
import Derived.Test.YtnmggblhbodfgaaPx6
set_option linter.unusedVariables false
set_option linter.unusedSimpArgs false
set_option linter.unusedSectionVars false
namespace Go.Proofs.Ytnmggblhbodfgaa.Pure
open Go.RowKit Go.Proofs.YtnmggblhbodfgaaW.PrintWords Go.Proofs.YtnmggblhbodfgaaW.PrintMore Go.Proofs.Ytnmggblhbodfgaa.P Go.Proofs.Ytnmggblhbodfgaa.Com Go.Proofs.Ytnmggblhbodfgaa.Hd
theorem awake_true : gladstonelaw60_awake.f = some true := by decide +kernel
theorem awake_ev : Ev (fun _ => (gladstonelaw60_awake.f).bind fun t => some t) true := Ev.fixed (by rw [awake_true]; rfl)
theorem nb_one (c : Nat) (h : c < 256) : nb (strOfNums [((c : Nat) : Int)]) = [c] := nb_str [c] (by intro x hx; rw [List.mem_singleton.1 hx]; exact h)
theorem fresh0_l0 (d : Nat) : ∀ i : Nat, i + d = 256 → Ev (fun k => gladstoneref60_fresh.l0 k ((List.range i).map (fun c : Nat => strOfNums [((c : Nat) : Int)])) (i : Int)) rows0 := by
  induction d with
  | zero =>
    intro i hi
    obtain rfl : i = 256 := hi
    refine Ev.step (f := fun _ => some rows0) (fun k => ?_) (Ev.now _)
    rw [gladstoneref60_fresh.l0, if_neg (by decide)]
    rfl
  | succ d ih =>
    intro i hi
    refine Ev.step (f := fun k => gladstoneref60_fresh.l0 k ((List.range (i + 1)).map (fun c : Nat => strOfNums [((c : Nat) : Int)])) ((i + 1 : Nat) : Int)) (fun k => ?_) (ih (i + 1) (by omega))
    rw [gladstoneref60_fresh.l0, if_pos (by omega), if_pos (by rw [List.length_map, List.length_range]; omega), w64 (by omega) (by omega), List.range_succ, List.map_append, List.map_singleton]
    have e : ((i : Int) % 256) = (i : Int) := by omega
    rw [e]
    rfl
theorem fresh0_ev : Ev (fun k => gladstoneref60_fresh.f k) rows0 := fresh0_l0 256 0 (by omega)
theorem rows0_nb : rows0.map nb = R [] := by
  unfold rows0
  rw [R_nil, rw0, List.map_map]
  refine List.map_congr_left (fun c hc => ?_)
  exact nb_one c (List.mem_range.1 hc)
theorem rdOf_emp (l : List ByteArray) (i : Nat) : rdOf ByteArray.empty l (i : Int) = l.getD i ⟨#[]⟩ := rdOf_nat _ l i
theorem getD_lt {α : Type} {l : List α} {i : Nat} (d : α) (h : i < l.length) : l.getD i d = l[i] := by rw [List.getD_eq_getElem?_getD, List.getElem?_eq_getElem h]; rfl
/-- Does a text begin with a row? -/
def pre (r s : ByteArray) : Prop := nb r <+: nb s
theorem pre_iff (r s : ByteArray) : (r.size ≤ s.size ∧ (s.extract 0 r.size).toList = r.toList) ↔ pre r s := by
  rw [toList_nb, nb_extract, List.drop_zero, Nat.sub_zero]
  unfold pre
  rw [List.prefix_iff_eq_take, nb_length]
  constructor
  · intro h; exact h.2.symm
  · intro h
    refine ⟨?_, h.symm⟩
    have := congrArg List.length h
    rw [nb_length, List.length_take, nb_length] at this
    omega
theorem longest_l0 {l : List ByteArray} {s : ByteArray} {a : Nat} (hl : l.length ≤ 4294967296) (ha : a < l.length) (h1 : pre (l.getD a ⟨#[]⟩) s) (h2 : 1 ≤ (l.getD a ⟨#[]⟩).size)
    (h3 : ∀ k, k < l.length → k ≠ a → pre (l.getD k ⟨#[]⟩) s → (l.getD k ⟨#[]⟩).size < (l.getD a ⟨#[]⟩).size) (d : Nat) : ∀ (i b n : Nat), i + d = l.length → (i ≤ a → n < (l.getD a ⟨#[]⟩).size) → (a < i → b = a ∧ n = (l.getD a ⟨#[]⟩).size) →
    Ev (fun k => gladstoneref60_longest.l0 k l s (b : Int) (n : Int) (i : Int)) (a : Int) := by
  induction d with
  | zero =>
    intro i b n hi _ hb
    refine Ev.step (f := fun _ => some (b : Int)) (fun k => by rw [gladstoneref60_longest.l0, if_neg (by omega)]) ?_
    rw [(hb (by omega)).1]
    exact Ev.now _
  | succ d ih =>
    intro i b n hi hn hb
    have hil : i < l.length := by omega
    obtain ⟨r, hr⟩ : ∃ r, l.getD i ⟨#[]⟩ = r := ⟨_, rfl⟩
    have hra : i = a → r = l.getD a ⟨#[]⟩ := by rintro rfl; exact hr.symm
    by_cases hg : n < r.size ∧ pre r s
    · have hp := (pre_iff r s).2 hg.2
      have hia : i = a ∨ (i < a ∧ r.size < (l.getD a ⟨#[]⟩).size) := by
        by_cases hne : i = a
        · exact .inl hne
        · have h4 := h3 i hil hne (by rw [hr]; exact hg.2)
          rw [hr] at h4
          have h5 := hg.1
          rcases Nat.lt_or_ge a i with h | h
          · have := (hb h).2; omega
          · exact .inr ⟨by omega, h4⟩
      have hg1 := hg.1
      refine Ev.step (f := fun k => gladstoneref60_longest.l0 k l s (i : Int) ((r.size : Nat) : Int) ((i + 1 : Nat) : Int)) (fun k => ?_) (ih (i + 1) i r.size (by omega) (fun h => by omega) (fun h => by
        rcases hia with e | e
        · exact ⟨e, by rw [hra e]⟩
        · omega))
      rw [gladstoneref60_longest.l0, if_pos (by omega), if_pos (by omega), rdOf_emp, hr, if_pos (by omega), if_pos (by omega), if_pos (by omega), if_pos hp.2, w64 (by omega) (by omega)]
      rfl
    · have hia : i ≠ a := by
        rintro rfl
        refine hg ⟨?_, ?_⟩
        · rw [hra rfl]; exact hn (Nat.le_refl _)
        · rw [hra rfl]; exact h1
      refine Ev.step (f := fun k => gladstoneref60_longest.l0 k l s (b : Int) (n : Int) ((i + 1 : Nat) : Int)) (fun k => ?_) (ih (i + 1) b n (by omega) (fun h => hn (by omega)) (fun h => hb (by omega)))
      rw [gladstoneref60_longest.l0, if_pos (by omega), if_pos (by omega), rdOf_emp, hr, w64 (by omega) (by omega)]
      by_cases g1 : n < r.size
      · rw [if_pos (show ((r.size : Int) > (n : Int)) by omega)]
        by_cases g2 : r.size ≤ s.size
        · rw [if_pos (show ((r.size : Int) ≤ (s.size : Int)) by omega), if_pos (show (0 : Int) ≤ (r.size : Int) by omega), if_neg (fun e => hg ⟨g1, (pre_iff r s).1 ⟨g2, e⟩⟩)]
          rfl
        · rw [if_neg (show ¬ ((r.size : Int) ≤ (s.size : Int)) by omega)]
          rfl
      · rw [if_neg (show ¬ ((r.size : Int) > (n : Int)) by omega)]
        rfl
theorem longest_ev {l : List ByteArray} {s : ByteArray} {a : Nat} (hl : l.length ≤ 4294967296) (ha : a < l.length) (h1 : pre (l.getD a ⟨#[]⟩) s) (h2 : 1 ≤ (l.getD a ⟨#[]⟩).size)
    (h3 : ∀ k, k < l.length → k ≠ a → pre (l.getD k ⟨#[]⟩) s → (l.getD k ⟨#[]⟩).size < (l.getD a ⟨#[]⟩).size) : Ev (fun k => gladstoneref60_longest.f k l s) (a : Int) :=
  longest_l0 hl ha h1 h2 h3 l.length 0 0 0 (by omega) (fun _ => by omega) (fun h => by omega)
theorem nb_getD {l : List ByteArray} {D : List (Nat × Nat)} (h : l.map nb = R D) (k : Nat) : nb (l.getD k ⟨#[]⟩) = row D k := by
  unfold row
  rw [← h, List.getD_eq_getElem?_getD, List.getD_eq_getElem?_getD, List.getElem?_map]
  cases l[k]? with
  | none => rfl
  | some x => rfl
theorem l_len {l : List ByteArray} {D : List (Nat × Nat)} (h : l.map nb = R D) : l.length = 256 + D.length := by rw [← R_len, ← h, List.length_map]
theorem toList_nil (s : ByteArray) : s.toList = ([] : List UInt8) ↔ s.size = 0 := by
  have h : s.toList.length = s.size := by rw [ByteArray.toList_eq]; simp
  constructor
  · intro e; rw [e] at h; exact h.symm
  · intro e; exact List.eq_nil_of_length_eq_zero (by omega)
theorem grD_ok {room : Nat} {D : List (Nat × Nat)} {a c : Nat} (h : DOk D) (hx : (a, c) ∉ D) (ha : a < 256 + D.length) (hc : c < 256) : DOk (grD room D (a, c)) := by
  unfold grD
  split
  · exact h.snoc hx ha hc
  · exact h
/-- What stands ahead of the text that is still to be taken. -/
def hd0 (D : List (Nat × Nat)) : Option Nat → List Nat
  | none => []
  | some a => row D a
theorem enc_ev (m : Nat) (hm1 : 9 ≤ m) (hm2 : m ≤ 16) : ∀ (t : List Nat) (at_ : Option Nat) (D : List (Nat × Nat)) (out : List Bool) (x : ByteArray) (l : List ByteArray), (∀ c ∈ t, c < 256) → DOk D → l.map nb = R D → nb x = hd0 D at_ ++ t →
    (∀ a, at_ = some a → a < 256 + D.length) → out.length + 56 * (t.length + 1) ≤ 1099511627776 → D.length + t.length ≤ 1073741824 → x.size ≤ 1099511627776 → Ev (fun k => gladstoneref60_Encode.l0 k x (m : Int) l out) (bstr (enc (2 ^ m) t at_ D out), 0) := by
  have hend : ∀ (out : List Bool) (x : ByteArray) (l : List ByteArray), nb x = [] → out.length ≤ 1099511627776 → Ev (fun k => gladstoneref60_Encode.l0 k x (m : Int) l out) (bstr out, 0) := by
    intro out x l hx ho
    have hs : x.size = 0 := by rw [← nb_length, hx]; rfl
    refine Ev.step (fun k => by rw [gladstoneref60_Encode.l0, if_pos ((toList_nil x).2 hs)]) (Ev.bind (bytes_ev out ho) (Ev.now _))
  have hshl : shl .i64 1 (IntKind.u64.wrap (m : Int)) = ((2 ^ m : Nat) : Int) := by
    rw [wu64 (by omega) (by omega), shl64 (by omega) (by omega), Int.toNat_natCast]; simp
  -- one row
  have hrow : ∀ (t : List Nat) (a : Nat) (D : List (Nat × Nat)) (out : List Bool) (x : ByteArray) (l : List ByteArray) (res : ByteArray × Int), DOk D → l.map nb = R D → nb x = row D a ++ t → a < 256 + D.length → (∀ c u, t = c :: u → (a, c) ∉ D) → out.length ≤ 1099511627776 → D.length ≤ 1073741824 → x.size ≤ 1099511627776 →
      (∀ (x' : ByteArray) (l' : List ByteArray), nb x' = t → (∀ c u, t = c :: u → l'.map nb = R (grD (2 ^ m) D (a, c))) → Ev (fun k => gladstoneref60_Encode.l0 k x' (m : Int) l' (rput out a (wd (256 + D.length))).1) res) → Ev (fun k => gladstoneref60_Encode.l0 k x (m : Int) l out) res := by
    intro t a D out x l res hD hl hx ha ht ho hdl hxs hk
    have hlen := l_len hl
    have hra := nb_getD hl a
    have hpos := (row_pos hD ha).1
    have hsa : (l.getD a ⟨#[]⟩).size = (row D a).length := by rw [← nb_length, hra]
    have hxl : x.size = (row D a).length + t.length := by rw [← nb_length, hx, List.length_append]
    have hlg := longest_ev (l := l) (s := x) (a := a) (by omega) (by omega) (by unfold pre; rw [hra, hx]; exact List.prefix_append _ _) (by omega) (fun k hk1 hk2 hk3 => by
      unfold pre at hk3
      rw [nb_getD hl k, hx] at hk3
      have := row_longest hD ha ht (k := k) (by omega) hk2 hk3
      rw [hsa, ← nb_length, nb_getD hl k]; exact this)
    have hb := rbits_ev l.length (by omega) (by omega)
    have hp := rput_ev out (by omega) (a : Int) ((wd l.length : Nat) : Int) (by omega) (by omega)
    refine Ev.step (fun k => by rw [gladstoneref60_Encode.l0, if_neg (fun e => by have := (toList_nil x).1 e; omega)]) (Ev.bind hlg (Ev.bind hb ?_))
    rw [show IntKind.u64.wrap (a : Int) = (a : Int) from wu64 (by omega) (by omega)]
    refine Ev.bind hp ?_
    obtain ⟨ra, hra2⟩ : ∃ ra, l.getD a ⟨#[]⟩ = ra := ⟨_, rfl⟩
    rw [hra2] at hra hsa
    rw [rdOf_emp, hra2]
    rw [← hlen] at hk
    refine Ev.ifp (by omega) (Ev.ifp (by omega) ?_)
    have hdrop : nb (x.extract ra.size x.size) = t := by
      rw [nb_extract, hx, hsa, List.drop_left, List.take_of_length_le (by omega)]
    by_cases g1 : ra.size < x.size
    · obtain ⟨c, u, htc⟩ : ∃ c u, t = c :: u := by
        cases t with
        | nil => rw [List.length_nil] at hxl; omega
        | cons c u => exact ⟨c, u, rfl⟩
      refine Ev.ifp (by omega) (Ev.ifp (by rw [wu64 (by omega) (by omega)]; omega) ?_)
      rw [hshl]
      by_cases g2 : l.length < 2 ^ m
      · refine Ev.ifp (by omega) ?_
        rw [w64 (by omega) (by omega)]
        refine Ev.ifp (by omega) (Ev.ifp (by omega) (Ev.ifp (by omega) (Ev.ifp (by omega) (Ev.ifp (by omega) ?_))))
        refine hk _ _ hdrop (fun c' u' htc' => ?_)
        rw [htc] at htc'
        injection htc' with e1 e2
        subst e1 e2
        unfold grD
        rw [if_pos (by omega), R_snoc, List.map_append, hl, List.map_singleton]
        congr 2
        rw [nb_extract, hx, htc, List.drop_zero, show ((ra.size : Int) + 1).toNat - 0 = ra.size + 1 from by omega, hsa, List.take_append, List.take_of_length_le (by omega), show (row D a).length + 1 - (row D a).length = 1 from by omega]
        rfl
      · refine Ev.ifn (by omega) (Ev.ifp (by omega) (Ev.ifp (by omega) ?_))
        refine hk _ _ hdrop (fun c' u' htc' => ?_)
        unfold grD
        rw [if_neg (by omega)]
        exact hl
    · refine Ev.ifn (by omega) (Ev.ifp (by omega) (Ev.ifp (by omega) ?_))
      refine hk _ _ hdrop (fun c u htc => ?_)
      rw [htc, List.length_cons] at hxl
      omega
  intro t
  induction t with
  | nil =>
    intro at_ D out x l hc hD hl hx ha ho hd hxs
    cases at_ with
    | none => rw [enc]; exact hend out x l (by rw [hx]; rfl) (by omega)
    | some a =>
      have hpos := (row_pos hD (ha a rfl)).1
      rw [enc]
      refine hrow [] a D out x l _ hD hl hx (ha a rfl) (by simp) (by simp at ho; omega) (by simp at hd; omega) hxs (fun x' l' hx' _ => ?_)
      exact hend _ x' l' hx' (by have := rput_len out a (wd (256 + D.length)); simp at ho; omega)
  | cons c t ih =>
    intro at_ D out x l hc hD hl hx ha ho hd hxs
    have hc1 := hc c List.mem_cons_self
    have hct : ∀ c ∈ t, c < 256 := fun y hy => hc y (List.mem_cons_of_mem _ hy)
    rw [List.length_cons] at ho hd
    cases at_ with
    | none =>
      rw [enc]
      exact ih (some c) D out x l hct hD hl (by rw [hx]; show c :: t = row D c ++ t; rw [row_one hc1]; rfl) (fun a e => by have := Option.some.inj e; omega) (by omega) (by omega) hxs
    | some a =>
      have ha1 := ha a rfl
      by_cases hin : (a, c) ∈ D
      · rw [enc, if_pos hin]
        have hi := List.idxOf_lt_length_iff.2 hin
        have hg : D[D.idxOf (a, c)]? = some (a, c) := by rw [List.getElem?_eq_getElem hi, List.getElem_idxOf hi]
        have hr := row_step hD _ _ hg
        refine ih (some (256 + D.idxOf (a, c))) D out x l hct hD hl ?_ (fun b e => by have := Option.some.inj e; omega) (by omega) (by omega) hxs
        rw [hx]
        show row D a ++ c :: t = row D (256 + D.idxOf (a, c)) ++ t
        rw [hr]; simp
      · rw [enc, if_neg hin]
        refine hrow (c :: t) a D out x l _ hD hl hx ha1 (fun c' u e => by injection e with e1 _; subst e1; exact hin) (by omega) (by omega) hxs (fun x' l' hx' hl' => ?_)
        have hg := grD_len (2 ^ m) D (a, c)
        have hpl := rput_len out a (wd (256 + D.length))
        refine ih (some c) (grD (2 ^ m) D (a, c)) _ x' l' hct (grD_ok hD hin ha1 hc1) (hl' c t rfl) (by rw [hx']; show c :: t = row _ c ++ t; rw [row_one hc1]; rfl) (fun b e => by have := Option.some.inj e; omega) (by omega) (by omega) (by rw [← nb_length, hx', List.length_cons]; omega)
theorem LzwEncodes : gladstonelaw60_LzwEncodes.Pure := by
  intro s m _ hm
  apply Ev.rounds
  unfold gladstonelaw60_LzwEncodes.f
  by_cases h300 : (s.size : Int) > 300
  · exact Ev.ifp h300 awake_ev
  refine Ev.ifn h300 ?_
  by_cases hbad : m < 9 ∨ 16 < m
  · have e1 : lzw_Encode.f s m = some (⟨#[]⟩, 1) := by unfold lzw_Encode.f; rw [if_pos hbad]
    have e2 : Ev (fun k => gladstoneref60_Encode.f k s m) ((⟨#[]⟩ : ByteArray), 1) := by
      have : ∀ k, gladstoneref60_Encode.f k s m = gladstoneref60_Encode.j0 k s m true := by
        intro k
        unfold gladstoneref60_Encode.f
        by_cases h : m < 9
        · rw [if_pos h]
        · rw [if_neg h, decide_eq_true (by omega)]
      refine Ev.congr this (Ev.step (fun k => by rw [gladstoneref60_Encode.j0, if_pos rfl]) (Ev.now _))
    refine Ev.bind (Ev.fixed e1) (Ev.bind e2 (Ev.ifp rfl (Ev.ifp rfl awake_ev)))
  · obtain ⟨n, rfl⟩ : ∃ n : Nat, m = n := ⟨m.toNat, by omega⟩
    have e1 : lzw_Encode.f s (n : Int) = some (bstr (enc (2 ^ n) (nb s) none [] []), 0) := by unfold lzw_Encode.f; rw [if_neg hbad, if_pos (by omega), Int.toNat_natCast]
    have e2 : Ev (fun k => gladstoneref60_Encode.f k s (n : Int)) (bstr (enc (2 ^ n) (nb s) none [] []), 0) := by
      have : ∀ k, gladstoneref60_Encode.f k s (n : Int) = gladstoneref60_Encode.j0 k s (n : Int) false := by
        intro k
        unfold gladstoneref60_Encode.f
        rw [if_neg (by omega), decide_eq_false (by omega)]
      refine Ev.congr this (Ev.step (fun k => by rw [gladstoneref60_Encode.j0, if_neg (by decide)]) (Ev.bind fresh0_ev ?_))
      exact enc_ev n (by omega) (by omega) (nb s) none [] [] s rows0 (nb_lt s) DOk.nil rows0_nb rfl (by simp) (by rw [nb_length]; simp; omega) (by rw [nb_length]; simp; omega) (by omega)
    refine Ev.bind (Ev.fixed e1) (Ev.bind e2 (Ev.ifp rfl (Ev.ifp rfl awake_ev)))
end Go.Proofs.Ytnmggblhbodfgaa.Pure
