/- The plain law MarkovCodes: the document's encoder and decoder of bytes. -/
import Derived.Test.YtldhkhppefnmnaaPureMkLaw
import Derived.Test.YtldhkhppefnmnaaPureChU
import Derived.Test.YtldhkhppefnmnaaPureRgDecA
import Derived.Test.YtldhkhppefnmnaaPx4
import Derived.Test.YtldhkhppefnmnaaPx6
import Derived.Test.YtldhkhppefnmnaaPx7
set_option linter.unusedVariables false
set_option linter.unusedSimpArgs false
set_option linter.unusedSectionVars false
namespace Go.Proofs.Ytldhkhppefnmnaa.Pure
open Go Go.RowKit Go.Proofs.YtldhkhppefnmnaaW.PrintWords Go.Proofs.YtldhkhppefnmnaaW.PrintMore Go.Proofs.Ytldhkhppefnmnaa.P Go.Proofs.Ytldhkhppefnmnaa.Com Go.Proofs.Ytldhkhppefnmnaa.Rn Go.Proofs.Ytldhkhppefnmnaa.Hd
/-! ### Rows of 256, one behind the other -/
theorem flat_len (CH : List (List Int)) : (∀ c, c < CH.length → (CH.getD c []).length = 256) → CH.flatten.length = 256 * CH.length := by
  induction CH with
  | nil => intro _; rfl
  | cons a t ih =>
    intro h
    have h0 := h 0 (by simp)
    have h1 := ih (fun c hc => by have := h (c + 1) (by simpa using hc); simpa using this)
    simp at h0
    rw [List.flatten_cons, List.length_append, h0, h1, List.length_cons]
    omega
theorem flat_get (CH : List (List Int)) : (∀ c, c < CH.length → (CH.getD c []).length = 256) → ∀ c i, c < CH.length → i < 256 → CH.flatten.getD (c * 256 + i) 0 = (CH.getD c []).getD i 0 := by
  induction CH with
  | nil => intro _ c i hc; simp at hc
  | cons a t ih =>
    intro h c i hc hi
    have h0 := h 0 (by simp)
    simp at h0
    have hg : ∀ c, c < t.length → (t.getD c []).length = 256 := fun c hc => by have := h (c + 1) (by simpa using hc); simpa using this
    rw [List.flatten_cons]
    cases c with
    | zero =>
      rw [List.getD_eq_getElem?_getD, List.getElem?_append_left (by omega)]
      simp [List.getD_eq_getElem?_getD]
    | succ c =>
      have h1 := ih hg c i (by simpa using hc) hi
      rw [List.getD_eq_getElem?_getD, List.getElem?_append_right (by omega), h0, show (c + 1) * 256 + i - 256 = c * 256 + i by omega, ← List.getD_eq_getElem?_getD, h1]
      simp
theorem flat_set (CH : List (List Int)) : (∀ c, c < CH.length → (CH.getD c []).length = 256) → ∀ c i (x : Int), c < CH.length → i < 256 → CH.flatten.set (c * 256 + i) x = (CH.set c ((CH.getD c []).set i x)).flatten := by
  induction CH with
  | nil => intro _ c i x hc; simp at hc
  | cons a t ih =>
    intro h c i x hc hi
    have h0 := h 0 (by simp)
    simp at h0
    have hg : ∀ c, c < t.length → (t.getD c []).length = 256 := fun c hc => by have := h (c + 1) (by simpa using hc); simpa using this
    rw [List.flatten_cons]
    cases c with
    | zero =>
      rw [List.set_append_left _ _ (by omega)]
      simp
    | succ c =>
      have h1 := ih hg c i x (by simpa using hc) hi
      rw [List.set_append_right _ _ (by omega), h0, show (c + 1) * 256 + i - 256 = c * 256 + i by omega, h1]
      simp
theorem fine_len {CH : List (List Int)} (hl : CH.length = 256) (h : FineR CH) : ∀ c, c < CH.length → (CH.getD c []).length = 256 := fun c hc => (h c (by omega)).1
/-- A row at hand, among all rows. -/
theorem at_get (CH : List (List Int)) (hl : CH.length = 256) (hF : FineR CH) {last : Nat} (hlast : last < 256) (ch : List Int) (hc : ch.length = 256) (hf : FineC ch) (i : Nat) (hi : i < 256) :
    rd (CH.set last ch).flatten (((last * 256 + i : Nat)) : Int) = ch.getD i 0 := by
  have hF' := hF.set hl hlast hc hf
  have hl' : (CH.set last ch).length = 256 := by rw [List.length_set]; exact hl
  rw [rd_nat, flat_get _ (fine_len hl' hF') last i (by omega) hi, getD_set_same CH (by omega)]
theorem at_set (CH : List (List Int)) (hl : CH.length = 256) (hF : FineR CH) {last : Nat} (hlast : last < 256) (ch : List Int) (hc : ch.length = 256) (hf : FineC ch) (i : Nat) (hi : i < 256) (x : Int) :
    (CH.set last ch).flatten.set (last * 256 + i) x = (CH.set last (ch.set i x)).flatten := by
  have hF' := hF.set hl hlast hc hf
  have hl' : (CH.set last ch).length = 256 := by rw [List.length_set]; exact hl
  rw [flat_set _ (fine_len hl' hF') last i x (by omega) hi, getD_set_same CH (by omega), set_set_same]
theorem at_len (CH : List (List Int)) (hl : CH.length = 256) (hF : FineR CH) {last : Nat} (hlast : last < 256) (ch : List Int) (hc : ch.length = 256) (hf : FineC ch) : (CH.set last ch).flatten.length = 65536 := by
  have hl' : (CH.set last ch).length = 256 := by rw [List.length_set]; exact hl
  rw [flat_len _ (fine_len hl' (hF.set hl hlast hc hf)), hl']
theorem same_row (CH : List (List Int)) {last : Nat} (h : last < CH.length) : CH.set last (CH.getD last []) = CH := by
  rw [List.getD_eq_getElem?_getD, List.getElem?_eq_getElem h]
  simp
/-! ### The document -/
theorem fresh_l0 (M : Nat) (hM : M ≤ 65536) (d : Nat) : ∀ i : Nat, i + d = M → Ev (fun k => gladstoneref61_fresh.l0 k (List.replicate i 1024 ++ List.replicate d 0) (i : Int)) (List.replicate M 1024) := by
  induction d with
  | zero =>
    intro i hi
    obtain rfl : i = M := by omega
    refine Ev.step (f := fun _ => some (List.replicate i (1024 : Int))) (fun k => ?_) (Ev.now _)
    simp only [gladstoneref61_fresh.l0]
    rw [if_neg (by rw [List.length_append, List.length_replicate, List.length_replicate]; omega), List.replicate_zero, List.append_nil]
  | succ d ih =>
    intro i hi
    refine Ev.step (fun k => ?_) (ih (i + 1) (by omega))
    simp only [gladstoneref61_fresh.l0]
    rw [if_pos (by rw [List.length_append, List.length_replicate, List.length_replicate]; omega), if_pos (by omega), Int.toNat_natCast, w64 (x := (i : Int) + 1) (by omega) (by omega)]
    have e : (List.replicate i (1024 : Int) ++ List.replicate (d + 1) 0).set i 1024 = List.replicate (i + 1) 1024 ++ List.replicate d 0 := by
      rw [List.replicate_succ, List.set_append_right _ _ (by rw [List.length_replicate]; exact Nat.le_refl _), List.length_replicate, Nat.sub_self, List.replicate_succ', List.set_cons_zero, List.append_assoc]
      rfl
    rw [e]
    rfl
theorem fresh_ev : Ev (fun k => gladstoneref61_fresh.f k) CH0.flatten := by
  have e : CH0.flatten = List.replicate 65536 1024 := by
    unfold CH0
    rw [List.flatten_replicate_replicate]
  rw [e]
  unfold gladstoneref61_fresh.f
  obtain ⟨M, hM⟩ : ∃ M, M = 65536 := ⟨_, rfl⟩
  refine Ev.ifp (by decide) ?_
  rw [← hM]
  exact fresh_l0 M (by omega) M 0 (by omega)
theorem shr_u8 (x k : Nat) (hk : k ≤ 7) : shr .u8 (x : Int) (IntKind.u64.wrap (k : Int)) = (x : Int) / 2 ^ k := by
  rw [wu64 (by omega) (by omega)]
  unfold shr
  rw [Int.toNat_natCast, show min k IntKind.u8.bits = k by simp [IntKind.bits]; omega]
theorem idx_lt {last A : Nat} (h : last < 256) (h2 : A < 256) : last * 256 + A < 65536 := by omega
theorem idx_eq {last A : Nat} (h : last < 256) (h2 : A < 256) : wrap64 (wrap64 ((last : Int) * 256) + (A : Int)) = ((last * 256 + A : Nat) : Int) := by
  rw [w64 (x := (last : Int) * 256) (by omega) (by omega), w64 (by omega) (by omega)]; omega
theorem enc_l1 (s : ByteArray) (hs : s.size ≤ 150) (i c last : Nat) (CH : List (List Int)) (hl : CH.length = 256) (hF : FineR CH) (hlast : last < 256) (hi : i < s.size) (hc : bt s (i : Int) = (c : Int)) (hc2 : c < 256) (R : ByteArray × Int) :
    ∀ k : Nat, k ≤ 8 → ∀ (A : Nat) (bl : List Bool) (pl ch : List Int), A < 2 * 2 ^ (8 - k) → ch.length = 256 → FineC ch → bl.length + k ≤ 1000000 → pl.length + k ≤ 1000000 →
      Ev (fun q => gladstoneref61_Encode.l0 q s (CH.set last (wk (tellE c) k (bl, pl) A ch).2.2).flatten (wk (tellE c) k (bl, pl) A ch).2.1.1 (wk (tellE c) k (bl, pl) A ch).2.1.2 (c : Int) ((i + 1 : Nat) : Int)) R →
      Ev (fun q => gladstoneref61_Encode.l1 q s (CH.set last ch).flatten bl pl (last : Int) (i : Int) (A : Int) ((k : Int) - 1)) R := by
  intro k
  induction k with
  | zero =>
    intro _ A bl pl ch hA hcl hf hb hp h
    refine Ev.step (fun q => ?_) h
    simp only [gladstoneref61_Encode.l1]
    rw [if_neg (by omega), if_pos (by omega), if_pos (by omega), hc, w64 (x := (c : Int)) (by omega) (by omega), w64 (x := (i : Int) + 1) (by omega) (by omega)]
    rfl
  | succ k ih =>
    intro hk A bl pl ch hA hcl hf hb hp h
    have h8 : 2 * 2 ^ (8 - (k + 1)) ≤ 2 ^ 8 := by
      rw [← Nat.pow_succ']; exact Nat.pow_le_pow_right (by omega) (by omega)
    have e256 : (2 : Nat) ^ 8 = 256 := by decide
    have hA2 : A < 256 := by omega
    have hpp := hf.at_ (i := A) (by omega)
    have hrd := at_get CH hl hF hlast ch hcl hf A hA2
    have hst := fun x => at_set CH hl hF hlast ch hcl hf A hA2 x
    have hln := at_len CH hl hF hlast ch hcl hf
    rw [wk] at h
    obtain ⟨p, ep⟩ : ∃ p, ch.getD A 0 = p := ⟨_, rfl⟩
    rw [ep] at hpp hrd h
    have hnk : 2 ^ (8 - k) = 2 * 2 ^ (8 - (k + 1)) := by
      rw [← Nat.pow_succ']; congr 1; omega
    have hbb : (if bitOf c k then 1 else 0) ≤ 1 := by split <;> omega
    have hba := bit_and8 c k hc2
    have h1 := ih (by omega) (2 * A + if bitOf c k then 1 else 0) (bl ++ [bitOf c k]) (pl ++ [p]) (ch.set A (upd p (bitOf c k))) (by omega) (by rw [List.length_set]; exact hcl) (hf.set A (upd_in hpp.1 hpp.2)) (by simp; omega) (by simp; omega) h
    have e1 : (((k + 1 : Nat) : Int) - 1) = (k : Int) := by omega
    have ei := idx_eq hlast hA2
    have hix := idx_lt hlast hA2
    rw [← hln] at hix
    clear hln
    rw [e1]
    generalize hfl : (CH.set last ch).flatten = fl at *
    obtain ⟨I, hI⟩ : ∃ I, last * 256 + A = I := ⟨_, rfl⟩
    rw [hI] at hrd ei hix
    simp only [hI] at hst
    have hI1 : 0 ≤ (I : Int) := Int.natCast_nonneg _
    have hI2 : (I : Int) < (fl.length : Int) := Int.ofNat_lt.2 hix
    clear hfl hix hI
    refine Ev.step (fun q => ?_) h1
    simp only [gladstoneref61_Encode.l1]
    rw [if_pos (by omega), if_pos (by omega), if_pos (by omega), if_pos (by rw [wu64 (by omega) (by omega)]; omega), if_pos (by omega), hc, shr_u8 c k (by omega), hba, ei]
    simp only [Option.bind_some]
    rw [if_pos hI1, if_pos hI2, if_pos (by omega), hrd, update_ok p _ (by omega) (by omega), Int.toNat_natCast, w64 (x := (k : Int) - 1) (by omega) (by omega), w64 (x := (A : Int) * 2) (by omega) (by omega), w64 (x := (A : Int) * 2 + 1) (by omega) (by omega)]
    simp only [Option.bind_some, hst]
    cases hb2 : bitOf c k with
    | true =>
      rw [hb2] at hba
      rw [if_pos (beq_iff_eq.1 hba)]
      congr 1
      rw [if_pos rfl]; omega
    | false =>
      rw [hb2] at hba
      rw [if_neg (by intro e; rw [e] at hba; simp at hba)]
      congr 1
      rw [if_neg (by decide)]; omega
theorem enc_l0 (s : ByteArray) (hs : s.size ≤ 150) (d : Nat) : ∀ (i last : Nat) (bl : List Bool) (pl : List Int) (CH : List (List Int)), i + d = s.size → bl.length = 8 * i → pl.length = 8 * i → CH.length = 256 → FineR CH → last < 256 →
    Ev (fun q => gladstoneref61_Encode.l0 q s CH.flatten bl pl (last : Int) (i : Int)) (encP (mkT ((nb s).drop i) (bl, pl) last CH).1 (mkT ((nb s).drop i) (bl, pl) last CH).2) := by
  have e256 : (2 : Nat) ^ 8 = 256 := by decide
  induction d with
  | zero =>
    intro i last bl pl CH hi h1 h2 _ _ _
    rw [List.drop_eq_nil_of_le (by rw [nb_length]; omega)]
    refine Ev.step (f := fun q => (gladstoneref45_Encode.f q bl pl).bind fun bt => some (bt.1, bt.2)) (fun q => ?_) (Ev.bind (rencode_ev bl pl (by omega) (by omega)) (Ev.now _))
    simp only [gladstoneref61_Encode.l0]
    rw [if_neg (by omega)]
  | succ d ih =>
    intro i last bl pl CH hi h1 h2 hl hF hlast
    have hil : i < (nb s).length := by rw [nb_length]; omega
    obtain ⟨c, hc⟩ : ∃ c : Nat, (nb s)[i] = c := ⟨_, rfl⟩
    have hcl : c < 256 := by rw [← hc]; exact nb_lt s _ (List.getElem_mem hil)
    have hbt : bt s (i : Int) = (c : Int) := by rw [bt_nb, List.getD_eq_getElem?_getD, List.getElem?_eq_getElem hil, hc]; rfl
    rw [List.drop_eq_getElem_cons hil, hc, mkT]
    obtain ⟨bs, ps, ch', g1, g2, g3, g4, g5, g6, g7⟩ := wk_tr 8 c 8 (Nat.le_refl _) 1 (CH.getD last []) (by decide) (hF last hlast).1 (hF last hlast).2
    rw [e256, Nat.mod_eq_of_lt hcl] at g6
    rw [e256] at g4
    have hwk := g6 (bl, pl)
    have es : 1 * 256 + c - 256 = c := by omega
    have h := ih (i + 1) c (bl ++ bs) (pl ++ ps) (CH.set last ch') (by omega) (by simp; omega) (by simp; omega) (by rw [List.length_set]; exact hl) (hF.set hl hlast g4 g5) hcl
    rw [hwk]
    simp only [es]
    have h' := enc_l1 s hs i c last CH hl hF hlast (by omega) hbt hcl _ 8 (Nat.le_refl _) 1 bl pl (CH.getD last []) (by decide) (hF last hlast).1 (hF last hlast).2 (by omega) (by omega) (by rw [hwk]; exact h)
    rw [same_row CH (by omega)] at h'
    refine Ev.step (fun q => ?_) h'
    simp only [gladstoneref61_Encode.l0]
    rw [if_pos (by omega)]
    rfl
theorem rmk_enc (s : ByteArray) (hs : s.size ≤ 150) : Ev (fun q => gladstoneref61_Encode.f q s) (mkEnc s) := by
  unfold gladstoneref61_Encode.f mkEnc
  rw [if_neg (by omega)]
  refine Ev.ifn (by omega) ?_
  exact Ev.bind fresh_ev (enc_l0 s hs s.size 0 0 [] [] CH0 (by omega) rfl rfl List.length_replicate CH0_fine (by decide))
theorem dec_l1 (many : Int) (out : List Int) (ho : out.length ≤ 16777216) (last : Nat) (CH : List (List Int)) (hl : CH.length = 256) (hF : FineR CH) (hlast : last < 256) (R : ByteArray × Int) :
    ∀ k : Nat, k ≤ 8 → ∀ (A : Nat) (d : Ds) (ch : List Int), 2 ^ (8 - k) ≤ A → A < 2 * 2 ^ (8 - k) → ch.length = 256 → FineC ch → OkD d →
      (256 ≤ (wk tellD k d A ch).1 → (wk tellD k d A ch).1 < 512 → (wk tellD k d A ch).2.2.length = 256 → FineC (wk tellD k d A ch).2.2 → OkD (wk tellD k d A ch).2.1 →
        Ev (fun q => gladstoneref61_Decode.l0 q many (CH.set last (wk tellD k d A ch).2.2).flatten (out ++ [(((wk tellD k d A ch).1 - 256 : Nat) : Int)]) (((wk tellD k d A ch).1 - 256 : Nat) : Int) ((wk tellD k d A ch).2.1.1 : Int) ((wk tellD k d A ch).2.1.2.1 : Int) ((wk tellD k d A ch).2.1.2.2.1 : Int) (wk tellD k d A ch).2.1.2.2.2) R) →
      Ev (fun q => gladstoneref61_Decode.l1 q many (CH.set last ch).flatten out (last : Int) (A : Int) (d.1 : Int) (d.2.1 : Int) (d.2.2.1 : Int) d.2.2.2) R := by
  intro k
  have e256 : (2 : Nat) ^ 8 = 256 := by decide
  induction k with
  | zero =>
    intro _ A d ch hlo hA hcl hf hd h
    rw [Nat.sub_zero, e256] at hlo hA
    have h' := h hlo hA hcl hf hd
    refine Ev.step (fun q => ?_) h'
    simp only [gladstoneref61_Decode.l1]
    rw [if_neg (by omega), if_pos (by omega), w64 (x := (A : Int) - 256) (by omega) (by omega)]
    have e : ((A : Int) - 256) % 256 = ((A - 256 : Nat) : Int) := by omega
    have e2 : ((A : Int) - 256) = ((A - 256 : Nat) : Int) := by omega
    rw [e, e2]
    rfl
  | succ k ih =>
    intro hk A d ch hlo hA hcl hf hd h
    have h8 : 2 * 2 ^ (8 - (k + 1)) ≤ 2 ^ 8 := by
      rw [← Nat.pow_succ']; exact Nat.pow_le_pow_right (by omega) (by omega)
    have hA2 : A < 256 := by omega
    have hpp := hf.at_ (i := A) (by omega)
    have hrd := at_get CH hl hF hlast ch hcl hf A hA2
    have hst := fun x => at_set CH hl hF hlast ch hcl hf A hA2 x
    have hln := at_len CH hl hF hlast ch hcl hf
    rw [wk] at h
    obtain ⟨p, ep⟩ : ∃ p, ch.getD A 0 = p := ⟨_, rfl⟩
    rw [ep] at hpp hrd h
    obtain ⟨p, rfl⟩ : ∃ q : Nat, p = q := ⟨p.toNat, by omega⟩
    have hnk : 2 ^ (8 - k) = 2 * 2 ^ (8 - (k + 1)) := by
      rw [← Nat.pow_succ']; congr 1; omega
    have et : tellD d (p : Int) k = (dB d p, dN d p) := by unfold tellD; rw [Int.toNat_natCast]
    rw [et] at h
    have hbb : (if dB d p then 1 else 0) ≤ 1 := by split <;> omega
    have h1 := ih (by omega) (2 * A + if dB d p then 1 else 0) (dN d p) (ch.set A (upd p (dB d p))) (by omega) (by omega) (by rw [List.length_set]; exact hcl) (hf.set A (upd_in hpp.1 hpp.2)) (dN_ok hd (by omega)) h
    have ei := idx_eq hlast hA2
    have hix := idx_lt hlast hA2
    rw [← hln] at hix
    clear hln
    refine Ev.step (f := fun q => (gladstoneref45_Bit.f q (d.1 : Int) (d.2.1 : Int) (d.2.2.1 : Int) d.2.2.2 (p : Int)).bind fun bt => (gladstoneref44_Update.f (p : Int) bt.2.2.2.2.1).bind fun bt2 => (some (CH.set last (ch.set A bt2.1)).flatten).bind fun y => if bt.2.2.2.2.1 = true then gladstoneref61_Decode.l1 q many y out (last : Int) ((A : Int) * 2 + 1) bt.1 bt.2.1 bt.2.2.1 bt.2.2.2.1 else gladstoneref61_Decode.l1 q many y out (last : Int) ((A : Int) * 2) bt.1 bt.2.1 bt.2.2.1 bt.2.2.2.1) (fun q => ?_) ?_
    · generalize hfl : (CH.set last ch).flatten = fl at *
      obtain ⟨I, hI⟩ : ∃ I, last * 256 + A = I := ⟨_, rfl⟩
      rw [hI] at hrd ei hix
      simp only [hI] at hst
      have hI1 : 0 ≤ (I : Int) := Int.natCast_nonneg _
      have hI2 : (I : Int) < (fl.length : Int) := Int.ofNat_lt.2 hix
      clear hfl hix hI
      simp only [gladstoneref61_Decode.l1]
      rw [if_pos (by omega), ei, if_pos hI1, if_pos hI2, hrd, Int.toNat_natCast, w64 (x := (A : Int) * 2) (by omega) (by omega), w64 (x := (A : Int) * 2 + 1) (by omega) (by omega)]
      simp only [hst]
    · refine Ev.bind (bit_ev d p hd (by omega) (by omega)) ?_
      simp only []
      rw [update_ok _ _ (by omega) (by omega)]
      simp only [Option.bind_some]
      cases hb : dB d p with
      | true =>
        rw [hb] at h1
        refine Ev.ifp rfl ?_
        have e : ((2 * A + if true = true then 1 else 0 : Nat) : Int) = (A : Int) * 2 + 1 := by rw [if_pos rfl]; omega
        rw [e] at h1
        exact h1
      | false =>
        rw [hb] at h1
        refine Ev.ifn (by decide) ?_
        have e : ((2 * A + if false = true then 1 else 0 : Nat) : Int) = (A : Int) * 2 := by rw [if_neg (by decide)]; omega
        rw [e] at h1
        exact h1
theorem dec_l0 (many : Nat) (hm : many ≤ 16777216) (r : Nat) : ∀ (last : Nat) (out : List Nat) (d : Ds) (CH : List (List Int)), out.length + r = many → CH.length = 256 → FineR CH → last < 256 → OkD d →
    Ev (fun q => gladstoneref61_Decode.l0 q (many : Int) CH.flatten (zi out) (last : Int) (d.1 : Int) (d.2.1 : Int) (d.2.2.1 : Int) d.2.2.2) (strOfNums (zi (out ++ mkD r d last CH)), 0) := by
  induction r with
  | zero =>
    intro last out d CH hi _ _ _ _
    have hz : (zi out).length = out.length := by simp [zi]
    refine Ev.step (f := fun _ => some (strOfNums (zi out), 0)) (fun q => ?_) (Ev.some (by simp [mkD]))
    simp only [gladstoneref61_Decode.l0]
    rw [if_neg (by omega)]
  | succ r ih =>
    intro last out d CH hi hl hF hlast hd
    have hz : (zi out).length = out.length := by simp [zi]
    rw [mkD]
    have h1 := dec_l1 (many : Int) (zi out) (by omega) last CH hl hF hlast (strOfNums (zi (out ++ (((wk tellD 8 d 1 (CH.getD last [])).1 - 256) :: mkD r (wk tellD 8 d 1 (CH.getD last [])).2.1 ((wk tellD 8 d 1 (CH.getD last [])).1 - 256) (CH.set last (wk tellD 8 d 1 (CH.getD last [])).2.2)))), 0) 8 (Nat.le_refl _) 1 d (CH.getD last []) (by decide) (by decide) (hF last hlast).1 (hF last hlast).2 hd (fun a1 a2 a3 a4 a5 => by
      generalize wk tellD 8 d 1 (CH.getD last []) = W at *
      have h := ih (W.1 - 256) (out ++ [W.1 - 256]) W.2.1 (CH.set last W.2.2) (by simp; omega) (by rw [List.length_set]; exact hl) (hF.set hl hlast a3 a4) (by omega) a5
      have e1 : zi (out ++ [W.1 - 256]) = zi out ++ [((W.1 - 256 : Nat) : Int)] := by simp [zi]
      have e2 : out ++ [W.1 - 256] ++ mkD r W.2.1 (W.1 - 256) (CH.set last W.2.2) = out ++ ((W.1 - 256) :: mkD r W.2.1 (W.1 - 256) (CH.set last W.2.2)) := by simp
      rw [e1, e2] at h
      exact h)
    rw [same_row CH (by omega)] at h1
    refine Ev.step (fun q => ?_) h1
    simp only [gladstoneref61_Decode.l0]
    rw [if_pos (by omega)]
    rfl
theorem rmk_dec (s : ByteArray) (many : Int) : Ev (fun q => gladstoneref61_Decode.f q s many) (mkDec s many) := by
  unfold gladstoneref61_Decode.f mkDec
  have hj : Ev (fun q => gladstoneref61_Decode.j0 q s many true) ((⟨#[]⟩ : ByteArray), (1 : Int)) := by
    refine Ev.step (f := fun _ => some ((⟨#[]⟩ : ByteArray), (1 : Int))) (fun q => ?_) (Ev.now _)
    simp only [gladstoneref61_Decode.j0]
    rw [if_pos trivial]
  by_cases h3 : many < 0
  · rw [if_pos (Or.inl h3)]; exact Ev.ifp h3 hj
  · refine Ev.ifn h3 ?_
    by_cases h4 : many > 16777216
    · rw [if_pos (Or.inr h4), decide_eq_true h4]; exact hj
    · rw [if_neg (by omega), decide_eq_false h4]
      obtain ⟨mn, rfl⟩ : ∃ m : Nat, many = m := ⟨many.toNat, by omega⟩
      rw [Int.toNat_natCast]
      refine Ev.step (f := fun q => (gladstoneref61_fresh.f q).bind fun t => (gladstoneref45_New.f q s).bind fun bt => gladstoneref61_Decode.l0 q (mn : Int) t ([] : List Int) 0 bt.1 bt.2.1 bt.2.2.1 bt.2.2.2) (fun q => ?_) ?_
      · simp only [gladstoneref61_Decode.j0]
        rw [if_neg (by decide)]
      · refine Ev.bind fresh_ev (Ev.bind (new_ev s) ?_)
        exact dec_l0 mn (by omega) mn 0 [] (dStart s) CH0 (by simp) List.length_replicate CH0_fine (by decide) (dStart_ok s)
theorem MarkovCodes : gladstonelaw61_MarkovCodes.Pure := by
  intro s t many _ _ _
  apply Ev.rounds
  have hj : Ev (fun k => gladstonelaw61_MarkovCodes.j0 k s t many true) true := by
    refine Ev.step (f := fun _ => some true) (fun k => ?_) (Ev.now _)
    simp only [gladstonelaw61_MarkovCodes.j0]
    rw [if_pos trivial, awake_f']
  unfold gladstonelaw61_MarkovCodes.f
  by_cases h1 : (s.size : Int) > 150
  · exact Ev.ifp h1 hj
  refine Ev.ifn h1 ?_
  by_cases h2 : (t.size : Int) > 200
  · exact Ev.ifp h2 hj
  refine Ev.ifn h2 ?_
  have hf : Ev (fun k => gladstonelaw61_MarkovCodes.j0 k s t many false) true := by
    refine Ev.step (f := fun k => (gladstoneref61_Encode.f k s).bind fun bt202 => (gladstoneref61_Decode.f k t many).bind fun bt206 => if (mkEnc s).1.toList = bt202.1.toList then (if (mkEnc s).2 = bt202.2 then (if ((mkEnc s).1.size : Int) = (bt202.1.size : Int) then (if (mkDec t many).1.toList = bt206.1.toList then (if (mkDec t many).2 = bt206.2 then (some true) else (some false)) else (some false)) else (some false)) else (some false)) else (some false)) (fun k => ?_) ?_
    · simp only [gladstonelaw61_MarkovCodes.j0, markov_Encode.f, markov_Decode.f, markov_Size.f, Option.bind_some]
      rw [if_neg (by decide), awake_f']
    · refine Ev.bind (rmk_enc s (by omega)) (Ev.bind (rmk_dec t many) ?_)
      exact Ev.ifp rfl (Ev.ifp rfl (Ev.ifp rfl (Ev.ifp rfl (Ev.ifp rfl (Ev.now _)))))
  by_cases h3 : many > 300
  · refine Ev.ifp h3 ?_
    by_cases h4 : many ≤ 16777216
    · rw [decide_eq_true h4]; exact hj
    · rw [decide_eq_false h4]; exact hf
  · exact Ev.ifn h3 hf
end Go.Proofs.Ytldhkhppefnmnaa.Pure
