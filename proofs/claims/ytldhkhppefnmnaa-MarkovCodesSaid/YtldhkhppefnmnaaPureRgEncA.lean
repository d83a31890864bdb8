/- The document's encoder (chapter 45), plainly. -/
import Derived.Test.YtldhkhppefnmnaaPureRgBack
import Derived.Test.YtldhkhppefnmnaaPx4
set_option linter.unusedVariables false
set_option linter.unusedSimpArgs false
set_option linter.unusedSectionVars false
namespace Go.Proofs.Ytldhkhppefnmnaa.Pure
open Go Go.RowKit Go.Proofs.YtldhkhppefnmnaaW.PrintWords Go.Proofs.YtldhkhppefnmnaaW.PrintMore Go.Proofs.Ytldhkhppefnmnaa.P Go.Proofs.Ytldhkhppefnmnaa.Com Go.Proofs.Ytldhkhppefnmnaa.Rn Go.Proofs.Ytldhkhppefnmnaa.Hd
theorem str_app (xs ys : List Int) : strOfNums xs ++ strOfNums ys = strOfNums (xs ++ ys) := by
  refine nb_inj ?_
  rw [nb_append]
  simp [nb, strOfNums]
theorem str_size (xs : List Int) : (strOfNums xs).size = xs.length := by rw [← nb_length]; simp [nb, strOfNums]
theorem str_nil : (⟨#[]⟩ : ByteArray) = strOfNums [] := rfl
theorem fits_f (x : Int) : gladstoneref44_Fits.f x = some (!badP x) := by
  unfold gladstoneref44_Fits.f badP
  by_cases h : x ≥ 1
  · rw [if_pos h]
    by_cases h2 : x ≤ 2047
    · rw [decide_eq_true h2, decide_eq_false (by omega)]; rfl
    · rw [decide_eq_false h2, decide_eq_true (by omega)]; rfl
  · rw [if_neg h, decide_eq_true (by omega)]; rfl
theorem fine_ev (l : List Int) (hl : l.length ≤ 17592186044416) : Ev (fun k => gladstoneref45_fine.f k l) (!l.any badP) := by
  have h := Ev.along l (fun k (_ : Unit) i => gladstoneref45_fine.l0 k l i) (fun _ t => !t.any badP) (fun _ _ => True) ?_ ?_ 0 () (Nat.zero_le _) trivial
  · exact h
  · intro s _
    refine Ev.step (f := fun _ => some true) (fun k => ?_) (Ev.now _)
    simp only [gladstoneref45_fine.l0]
    rw [if_neg (by omega)]
  · intro i s a t hs hd ha hlt ih
    rw [List.any_cons]
    cases hb : badP a with
    | true =>
      refine Ev.step (f := fun _ => some false) (fun k => ?_) (Ev.now _)
      simp only [gladstoneref45_fine.l0]
      rw [if_pos (by omega), if_pos (by omega), rd_some ha, fits_f, hb]
      rfl
    | false =>
      refine Ev.step (fun k => ?_) (ih () trivial)
      simp only [gladstoneref45_fine.l0]
      rw [if_pos (by omega), if_pos (by omega), rd_some ha, fits_f, hb, w64 (x := (i : Int) + 1) (by omega) (by omega)]
      rfl
theorem part_l0 (f : Nat) : ∀ (xs : List Int) (a b : Nat) (x : Int) (s : ByteArray), Wd f a b → xs.length + f ≤ 1099511627776 →
    Ev (fun k => gladstoneref45_part.l0 k (strOfNums xs) (a : Int) (b : Int) x s) (((norm f a b).2.1 : Int), ((norm f a b).2.2 : Int), x, s, strOfNums (xs ++ zi (norm f a b).1)) := by
  induction f with
  | zero =>
    intro xs a b x s h hl
    have h0 := h.zero
    refine Ev.step (f := fun _ => some ((a : Int), (b : Int), x, s, strOfNums xs)) (fun k => ?_) (Ev.some ?_)
    · simp only [gladstoneref45_part.l0]
      rw [if_neg (by omega)]
    · simp [norm, zi]
  | succ f ih =>
    intro xs a b x s h hl
    have hab := h.1
    have hb := h.2.1
    rw [norm]
    by_cases e : a / 16777216 = b / 16777216
    · rw [if_pos e]
      have h1 := ih (xs ++ [((a / 16777216 : Nat) : Int)]) (sa a) (sb b) x s (h.step e) (by simp; omega)
      have e1 : xs ++ [((a / 16777216 : Nat) : Int)] ++ zi (norm f (sa a) (sb b)).1 = xs ++ zi (a / 16777216 :: (norm f (sa a) (sb b)).1) := by simp [zi]
      rw [e1] at h1
      refine Ev.step (fun k => ?_) h1
      simp only [gladstoneref45_part.l0]
      have eb : ((a : Int) / 16777216) % 256 = ((a / 16777216 : Nat) : Int) := by omega
      have ea : IntKind.u64.wrap (Int.tmod (a : Int) 16777216 * 256) = ((sa a : Nat) : Int) := by
        rw [Int.tmod_eq_emod_of_nonneg (by omega), wu64 (by omega) (by omega)]
        unfold sa; omega
      have ec : IntKind.u64.wrap (IntKind.u64.wrap (Int.tmod (b : Int) 16777216 * 256) + 255) = ((sb b : Nat) : Int) := by
        rw [Int.tmod_eq_emod_of_nonneg (by omega), wu64 (x := (b : Int) % 16777216 * 256) (by omega) (by omega), wu64 (by omega) (by omega)]
        unfold sb; omega
      rw [if_pos (by omega), eb, ea, ec]
      simp only [Option.bind_some]
      rw [if_pos (by rw [str_size, str_size]; simp; omega), str_app]
    · rw [if_neg e]
      refine Ev.step (f := fun _ => some ((a : Int), (b : Int), x, s, strOfNums xs)) (fun k => ?_) (Ev.some ?_)
      · simp only [gladstoneref45_part.l0]
        rw [if_neg (by omega)]
      · simp [zi]
theorem part_ev (a b p : Nat) (x : Int) (s : ByteArray) (bit : Bool) (hab : a < b) (hb : b < 4294967296) (hp : p ≤ 2047) :
    Ev (fun k => gladstoneref45_part.f k (a : Int) (b : Int) x s (p : Int) bit) (((norm 4 (tk a b p bit).1 (tk a b p bit).2).2.1 : Int), ((norm 4 (tk a b p bit).1 (tk a b p bit).2).2.2 : Int), x, s, strOfNums (zi (norm 4 (tk a b p bit).1 (tk a b p bit).2).1)) := by
  have hm := mid_f a b p (Nat.le_of_lt hab) hb (by omega)
  unfold ranger_span_middle.f at hm
  have hm := Option.some.inj hm
  have hlt := mid_lt hab (show p < 2048 by omega)
  have ht := tk_ok (p := p) (bit := bit) hab (by omega)
  have h := part_l0 4 [] (tk a b p bit).1 (tk a b p bit).2 x s (Wd.start ht.2.1 (Nat.lt_of_le_of_lt ht.2.2 hb)) (by decide)
  rw [List.nil_append] at h
  unfold gladstoneref45_part.f
  rw [hm]
  cases bit with
  | true =>
    refine Ev.ifp rfl (Ev.step (fun k => ?_) h)
    simp only [gladstoneref45_part.j0]
    have e : IntKind.u64.wrap ((mid a b p : Int) + 1) = ((mid a b p + 1 : Nat) : Int) := by rw [wu64 (by omega) (by omega)]; omega
    rw [e]
    rfl
  | false =>
    refine Ev.ifn (by decide) (Ev.step (fun k => ?_) h)
    simp only [gladstoneref45_part.j0]
    rfl
theorem encode_l0 (l0 : List Bool) (l1 : List Int) (hl : l0.length = l1.length) (hn : l0.length ≤ 4294967296) (h0 : l0.length ≠ 0) (hp : ∀ p ∈ l1, 1 ≤ p ∧ p ≤ 2047) (d : Nat) :
    ∀ (i : Nat) (xs : List Int) (a b : Nat), i + d = l0.length → xs.length ≤ 4 * i → a < b → b < 4294967296 →
      Ev (fun k => gladstoneref45_Encode.l0 k l0 l1 (strOfNums xs) (i : Int) (a : Int) (b : Int) 0 ⟨#[]⟩) (strOfNums (xs ++ enc (l0.drop i) (l1.drop i) a b), 0) := by
  induction d with
  | zero =>
    intro i xs a b hi hx hab hb
    rw [List.drop_eq_nil_of_le (by omega)]
    have e : enc [] (l1.drop i) a b = lastB a 4 := by cases l1.drop i <;> rfl
    rw [e, last_zi]
    refine Ev.step (f := fun _ => some (strOfNums (xs ++ zi (lastN a)), 0)) (fun k => ?_) (Ev.now _)
    simp only [gladstoneref45_Encode.l0]
    rw [if_neg (by omega), if_neg (by omega)]
    simp only [Option.bind_some]
    have e2 : [(a : Int) / 16777216 % 256, (a : Int) / 65536 % 256, (a : Int) / 256 % 256, (a : Int) % 256] = zi (lastN a) := by simp [zi, lastN]
    rw [e2, if_pos (by rw [str_size, str_size]; simp [zi, lastN]; omega), str_app]
  | succ d ih =>
    intro i xs a b hi hx hab hb
    have hi0 : l0[i]? = some (l0[i]'(by omega)) := List.getElem?_eq_getElem (by omega)
    have hi1 : l1[i]? = some (l1[i]'(by omega)) := List.getElem?_eq_getElem (by omega)
    have hpp := hp _ (List.getElem_mem (by omega : i < l1.length))
    rw [List.drop_eq_getElem_cons (by omega : i < l0.length), List.drop_eq_getElem_cons (by omega : i < l1.length), enc_cons, ← List.append_assoc]
    generalize l0[i]'(by omega) = bit at *
    generalize l1[i]'(by omega) = p at *
    obtain ⟨q, rfl⟩ : ∃ q : Nat, p = q := ⟨p.toNat, by omega⟩
    rw [Int.toNat_natCast]
    have ht := tk_ok (p := q) (bit := bit) hab (by omega)
    have hne := norm_end (Wd.start ht.2.1 (Nat.lt_of_le_of_lt ht.2.2 hb))
    have hln := norm_len 4 (tk a b q bit).1 (tk a b q bit).2
    have h1 := ih (i + 1) (xs ++ zi (norm 4 (tk a b q bit).1 (tk a b q bit).2).1) _ _ (by omega) (by simp [zi]; omega) hne.2.1 hne.2.2.1
    refine Ev.step (f := fun k => (gladstoneref45_part.f k (a : Int) (b : Int) 0 ⟨#[]⟩ (q : Int) bit).bind fun bt => if (strOfNums xs).size + bt.2.2.2.2.size ≤ 9223372036854775807 then gladstoneref45_Encode.l0 k l0 l1 (strOfNums xs ++ bt.2.2.2.2) ((i + 1 : Nat) : Int) bt.1 bt.2.1 bt.2.2.1 bt.2.2.2.1 else none) (fun k => ?_) ?_
    · simp only [gladstoneref45_Encode.l0]
      rw [if_pos (by omega), if_pos (by omega), if_pos (by omega), rd_some hi1, rdOf_some hi0, w64 (x := (i : Int) + 1) (by omega) (by omega)]
      rfl
    · refine Ev.bind (part_ev a b q 0 ⟨#[]⟩ bit hab hb (by omega)) ?_
      refine Ev.ifp (by rw [str_size, str_size]; simp [zi]; omega) ?_
      simp only [str_app]
      exact h1
theorem rencode_ev (l0 : List Bool) (l1 : List Int) (h0 : l0.length ≤ 1000000) (h1 : l1.length ≤ 1000000) : Ev (fun k => gladstoneref45_Encode.f k l0 l1) (encP l0 l1) := by
  unfold gladstoneref45_Encode.f encP
  by_cases e : l0.length = l1.length
  · refine Ev.ifp (by omega) ?_
    rw [if_neg (fun h => h e)]
    refine Ev.bind (fine_ev l1 (by omega)) ?_
    cases hb : l1.any badP with
    | true => exact Ev.ifn (by decide) (Ev.now _)
    | false =>
      refine Ev.ifp rfl ?_
      rw [if_neg (by decide)]
      by_cases hz : l0.length = 0
      · rw [if_pos hz]
        refine Ev.step (f := fun _ => some (⟨#[]⟩, 0)) (fun k => ?_) (Ev.now _)
        simp only [gladstoneref45_Encode.l0]
        rw [if_neg (by omega), if_pos (by omega)]
      · rw [if_neg hz]
        exact encode_l0 l0 l1 e (by omega) hz (not_bad hb) l0.length 0 [] 0 4294967295 (by omega) (by simp) (by decide) (by decide)
  · rw [if_pos e]
    exact Ev.ifn (by omega) (Ev.now _)
theorem ev_get2 {α : Type} {f : Nat → Option α} {r : α} (h : Ev f r) : ∃ k, f k = some r := by
  obtain ⟨k, hk⟩ := h
  exact ⟨k, hk k (Nat.le_refl _)⟩
end Go.Proofs.Ytldhkhppefnmnaa.Pure
