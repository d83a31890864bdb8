/- The plain law BittreeCodes: the document's encoder and decoder of numbers. -/
import Derived.Test.YtihpgdbggjhffaaPureBtrBack
import Derived.Test.YtihpgdbggjhffaaPureRgDecA
import Derived.Test.YtihpgdbggjhffaaPx5
import Derived.Test.YtihpgdbggjhffaaPx7
set_option linter.unusedVariables false
set_option linter.unusedSimpArgs false
set_option linter.unusedSectionVars false
namespace Go.Proofs.Ytihpgdbggjhffaa.Pure
open Go Go.RowKit Go.Proofs.YtihpgdbggjhffaaW.PrintWords Go.Proofs.YtihpgdbggjhffaaW.PrintMore Go.Proofs.Ytihpgdbggjhffaa.P Go.Proofs.Ytihpgdbggjhffaa.Com Go.Proofs.Ytihpgdbggjhffaa.Rn Go.Proofs.Ytihpgdbggjhffaa.Hd
theorem pow9 {n : Nat} (hn : n ≤ 9) : 1 ≤ 2 ^ n ∧ 2 ^ n ≤ 512 := by
  have : ∀ m : Nat, m ≤ 9 → 1 ≤ 2 ^ m ∧ 2 ^ m ≤ 512 := by decide
  exact this n hn
theorem shl9 {n : Nat} (hn : n ≤ 9) : shl .i64 1 (IntKind.u64.wrap (n : Int)) = ((2 ^ n : Nat) : Int) := by
  rw [wu64 (by omega) (by omega), shl64 (by omega) (by omega), Int.toNat_natCast]; simp
theorem fresh_l0 (M : Nat) (hM : M ≤ 512) (d : Nat) : ∀ i : Nat, i + d = M → Ev (fun k => gladstoneref46_fresh.l0 k (List.replicate i 1024 ++ List.replicate d 0) (i : Int)) (List.replicate M 1024) := by
  induction d with
  | zero =>
    intro i hi
    obtain rfl : i = M := by omega
    refine Ev.step (f := fun _ => some (List.replicate i (1024 : Int))) (fun k => ?_) (Ev.now _)
    simp only [gladstoneref46_fresh.l0]
    rw [if_neg (by simp)]
    simp
  | succ d ih =>
    intro i hi
    refine Ev.step (fun k => ?_) (ih (i + 1) (by omega))
    simp only [gladstoneref46_fresh.l0]
    rw [if_pos (by simp; omega), if_pos (by omega), Int.toNat_natCast, w64 (x := (i : Int) + 1) (by omega) (by omega)]
    have e : (List.replicate i (1024 : Int) ++ List.replicate (d + 1) 0).set i 1024 = List.replicate (i + 1) 1024 ++ List.replicate d 0 := by
      rw [List.replicate_succ, List.set_append_right _ _ (by simp), List.length_replicate, Nat.sub_self, List.replicate_succ']
      simp [List.append_assoc]
    rw [e]
    rfl
theorem fresh_ev (n : Nat) (hn : n ≤ 9) : Ev (fun k => gladstoneref46_fresh.f k (n : Int)) (List.replicate (2 ^ n) 1024) := by
  have hp := pow9 hn
  unfold gladstoneref46_fresh.f
  refine Ev.ifp (by rw [wu64 (by omega) (by omega)]; omega) ?_
  rw [shl9 hn, Int.toNat_natCast]
  refine Ev.ifp (by omega) (Ev.ifp (by omega) ?_)
  exact fresh_l0 (2 ^ n) hp.2 (2 ^ n) 0 (by omega)
theorem fits_ok {p : Int} (h1 : 1 ≤ p) (h2 : p ≤ 2047) : gladstoneref44_Fits.f p = some true := by
  rw [fits_f]; unfold badP; rw [decide_eq_false (by omega)]; rfl
theorem update_ok (p : Int) (b : Bool) (h1 : 1 ≤ p) (h2 : p ≤ 2047) : gladstoneref44_Update.f p b = some (upd p b, 0) := by
  unfold gladstoneref44_Update.f
  rw [fits_ok h1 h2]
  simp only [Option.bind_some]
  rw [if_pos trivial, Int.tdiv_eq_ediv_of_nonneg (by omega)]
  cases b with
  | false =>
    rw [if_neg (by decide), w64 (x := 2048 - p) (by omega) (by omega), Int.tdiv_eq_ediv_of_nonneg (by omega), w64 (x := (2048 - p) / 32) (by omega) (by omega), w64 (by omega) (by omega)]
    rfl
  | true =>
    rw [if_pos rfl, w64 (x := p / 32) (by omega) (by omega), w64 (by omega) (by omega)]
    rfl
theorem shr_i64 (x k : Nat) (hk : k ≤ 62) : shr .i64 (x : Int) (IntKind.u64.wrap (k : Int)) = (x : Int) / 2 ^ k := by
  rw [wu64 (by omega) (by omega)]
  unfold shr
  rw [Int.toNat_natCast, show min k IntKind.i64.bits = k by simp [IntKind.bits]; omega]
theorem enc_l1 (l : List Int) (n : Nat) (hn : n ≤ 9) (i x : Nat) (hi : l[i]? = some (x : Int)) (hx : x < 9223372036854775808) (hil : i < l.length) (R : ByteArray × Int) :
    ∀ k : Nat, k ≤ n → ∀ (A : Nat) (bl : List Bool) (pl ch : List Int), A < 2 * 2 ^ (n - k) → ch.length = 2 ^ n → FineC ch → bl.length + k ≤ 1000000 → pl.length + k ≤ 1000000 →
      Ev (fun q => gladstoneref46_Encode.l0 q l (n : Int) (wk (tellE x) k (bl, pl) A ch).2.2 (wk (tellE x) k (bl, pl) A ch).2.1.1 (wk (tellE x) k (bl, pl) A ch).2.1.2 (wrap64 ((i : Int) + 1))) R →
      Ev (fun q => gladstoneref46_Encode.l1 q l (n : Int) ch bl pl (i : Int) (A : Int) ((k : Int) - 1)) R := by
  intro k
  induction k with
  | zero =>
    intro _ A bl pl ch hA hl hF hb hp h
    refine Ev.step (fun q => ?_) h
    simp only [gladstoneref46_Encode.l1]
    rw [if_neg (by omega)]
    rfl
  | succ k ih =>
    intro hk A bl pl ch hA hl hF hb hp h
    have hn9 := pow9 hn
    have hA2 : A < ch.length := by
      rw [hl]
      refine Nat.lt_of_lt_of_le hA ?_
      rw [← Nat.pow_succ']
      exact Nat.pow_le_pow_right (by omega) (by omega)
    have hpp := hF.at_ hA2
    have hrd : rd ch (A : Int) = ch.getD A 0 := rd_nat ch A
    rw [wk] at h
    obtain ⟨p, ep⟩ : ∃ p, ch.getD A 0 = p := ⟨_, rfl⟩
    rw [ep] at hpp hrd h
    have hnk : 2 ^ (n - k) = 2 * 2 ^ (n - (k + 1)) := by
      rw [← Nat.pow_succ']; congr 1; omega
    have hbb : (if bitOf x k then 1 else 0) ≤ 1 := by split <;> omega
    have hba := bit_and x k hx
    have h1 := ih (by omega) (2 * A + if bitOf x k then 1 else 0) (bl ++ [bitOf x k]) (pl ++ [p]) (ch.set A (upd p (bitOf x k))) (by omega) (by rw [List.length_set]; exact hl) (hF.set A (upd_in hpp.1 hpp.2)) (by simp; omega) (by simp; omega) h
    have e1 : (((k + 1 : Nat) : Int) - 1) = (k : Int) := by omega
    rw [e1]
    refine Ev.step (fun q => ?_) h1
    simp only [gladstoneref46_Encode.l1]
    rw [if_pos (by omega), if_pos (by omega), if_pos (by omega), if_pos (by rw [wu64 (by omega) (by omega)]; omega), if_pos (by omega), rd_some hi, shr_i64 x k (by omega), hba]
    simp only [Option.bind_some]
    rw [if_pos (by omega), if_pos (by omega), if_pos (by omega), hrd, update_ok p _ (by omega) (by omega), Int.toNat_natCast, w64 (x := (k : Int) - 1) (by omega) (by omega), w64 (x := (A : Int) * 2) (by omega) (by omega), w64 (x := (A : Int) * 2 + 1) (by omega) (by omega)]
    simp only [Option.bind_some]
    cases hb2 : bitOf x k with
    | true =>
      rw [hb2] at hba
      rw [if_pos (beq_iff_eq.1 hba)]
      congr 1
      rw [if_pos rfl]; omega
    | false =>
      rw [hb2] at hba
      rw [if_neg (by intro e; rw [e] at hba; simp at hba)]
      congr 1
      rw [if_neg (by decide)]; omega
theorem enc_l0 (l : List Int) (n : Nat) (hn : 1 ≤ n ∧ n ≤ 9) (hw : ∀ x ∈ l, x < 9223372036854775808) (hl : l.length ≤ 300) (d : Nat) : ∀ (i : Nat) (bl : List Bool) (pl ch : List Int), i + d = l.length → bl.length = n * i → pl.length = n * i → ch.length = 2 ^ n → FineC ch →
    Ev (fun q => gladstoneref46_Encode.l0 q l (n : Int) ch bl pl (i : Int)) (match encT n (l.drop i) (bl, pl) ch with | none => (⟨#[]⟩, 2) | some r => encP r.1 r.2) := by
  induction d with
  | zero =>
    intro i bl pl ch hi h1 h2 _ _
    have hb : n * i ≤ 9 * 300 := Nat.mul_le_mul hn.2 (by omega)
    rw [List.drop_eq_nil_of_le (by omega)]
    refine Ev.step (f := fun q => (gladstoneref45_Encode.f q bl pl).bind fun bt => some (bt.1, bt.2)) (fun q => ?_) (Ev.bind (rencode_ev bl pl (by omega) (by omega)) (Ev.now _))
    simp only [gladstoneref46_Encode.l0]
    rw [if_neg (by omega)]
  | succ d ih =>
    intro i bl pl ch hi h1 h2 h3 h4
    have hp := pow9 hn.2
    have hb : n * i + n ≤ 9 * 300 := by
      have : n * (i + 1) ≤ 9 * 300 := Nat.mul_le_mul hn.2 (by omega)
      rw [Nat.mul_succ] at this; exact this
    have hi1 : l[i]? = some (l[i]'(by omega)) := List.getElem?_eq_getElem (by omega)
    have hxw := hw _ (List.getElem_mem (by omega : i < l.length))
    rw [List.drop_eq_getElem_cons (by omega : i < l.length)]
    generalize l[i]'(by omega) = x at *
    rw [encT]
    by_cases hx : x < 0 ∨ (2 ^ n : Nat) ≤ x
    · rw [if_pos hx]
      have hj : Ev (fun q => gladstoneref46_Encode.j2 q l (n : Int) ch bl pl (i : Int) true) ((⟨#[]⟩ : ByteArray), (2 : Int)) := by
        refine Ev.step (f := fun _ => some ((⟨#[]⟩ : ByteArray), (2 : Int))) (fun q => ?_) (Ev.now _)
        simp only [gladstoneref46_Encode.j2]
        rw [if_pos trivial]
      refine Ev.step (f := fun q => gladstoneref46_Encode.j2 q l (n : Int) ch bl pl (i : Int) true) (fun q => ?_) hj
      simp only [gladstoneref46_Encode.l0]
      rw [if_pos (by omega), if_pos (by omega), rd_some hi1]
      by_cases h0 : x < 0
      · rw [if_pos h0]
      · rw [if_neg h0, if_pos (by rw [wu64 (by omega) (by omega)]; omega), shl9 hn.2, decide_eq_true (by omega)]
    · rw [if_neg hx]
      obtain ⟨y, rfl⟩ : ∃ y : Nat, x = y := ⟨x.toNat, by omega⟩
      rw [Int.toNat_natCast]
      obtain ⟨bs, ps, ch', g1, g2, g3, g4, g5, g6, g7⟩ := wk_tr n y n (Nat.le_refl _) 1 ch (by simp) h3 h4
      have hwk := g6 (bl, pl)
      have h := ih (i + 1) (bl ++ bs) (pl ++ ps) ch' (by omega) (by rw [Nat.mul_succ]; simp; omega) (by rw [Nat.mul_succ]; simp; omega) g4 g5
      rw [hwk]
      have h' := enc_l1 l n hn.2 i y hi1 (by omega) (by omega) _ n (Nat.le_refl _) 1 bl pl ch (by simp) h3 h4 (by omega) (by omega) (by
        rw [hwk, w64 (x := (i : Int) + 1) (by omega) (by omega)]
        exact h)
      have hj : Ev (fun q => gladstoneref46_Encode.j2 q l (n : Int) ch bl pl (i : Int) false) (match encT n (l.drop (i + 1)) (bl ++ bs, pl ++ ps) ch' with | none => ((⟨#[]⟩ : ByteArray), (2 : Int)) | some r => encP r.1 r.2) := by
        refine Ev.step (fun q => ?_) h'
        simp only [gladstoneref46_Encode.j2]
        rw [if_neg (by decide), w64 (x := (n : Int) - 1) (by omega) (by omega)]
        rfl
      refine Ev.step (fun q => ?_) hj
      simp only [gladstoneref46_Encode.l0]
      rw [if_pos (by omega), if_pos (by omega), rd_some hi1, if_neg (by omega), if_pos (by rw [wu64 (by omega) (by omega)]; omega), shl9 hn.2, decide_eq_false (by omega)]
theorem rbt_enc (l : List Int) (n : Int) (hw : ∀ x ∈ l, x < 9223372036854775808) (hl : l.length ≤ 300) : Ev (fun q => gladstoneref46_Encode.f q l n) (btEnc l n) := by
  unfold gladstoneref46_Encode.f btEnc
  have hj : Ev (fun q => gladstoneref46_Encode.j0 q l n true) ((⟨#[]⟩ : ByteArray), (1 : Int)) := by
    refine Ev.step (f := fun _ => some ((⟨#[]⟩ : ByteArray), (1 : Int))) (fun q => ?_) (Ev.now _)
    simp only [gladstoneref46_Encode.j0]
    rw [if_pos trivial]
  by_cases h1 : n < 1
  · rw [if_pos (Or.inl h1)]; exact Ev.ifp h1 hj
  · refine Ev.ifn h1 ?_
    by_cases h2 : n > 9
    · rw [if_pos (Or.inr h2), decide_eq_true h2]; exact hj
    · rw [if_neg (by omega), decide_eq_false h2]
      obtain ⟨m, rfl⟩ : ∃ m : Nat, n = m := ⟨n.toNat, by omega⟩
      rw [Int.toNat_natCast]
      refine Ev.step (f := fun q => (gladstoneref46_fresh.f q (m : Int)).bind fun t => gladstoneref46_Encode.l0 q l (m : Int) t ([] : List Bool) ([] : List Int) 0) (fun q => ?_) ?_
      · simp only [gladstoneref46_Encode.j0]
        rw [if_neg (by decide)]
      · exact Ev.bind (fresh_ev m (by omega)) (enc_l0 l m (by omega) hw hl l.length 0 [] [] (List.replicate (2 ^ m) 1024) (by omega) rfl rfl (by simp) (fineC_new m))
theorem dec_l1 (n : Nat) (hn : n ≤ 9) (many i : Int) (out : List Int) (ho : out.length < 1048576) (R : List Int × Int) :
    ∀ k : Nat, k ≤ n → ∀ (A : Nat) (d : Ds) (ch : List Int), A < 2 * 2 ^ (n - k) → ch.length = 2 ^ n → FineC ch → OkD d →
      ((wk tellD k d A ch).1 < 2 * 2 ^ n → (wk tellD k d A ch).2.2.length = 2 ^ n → FineC (wk tellD k d A ch).2.2 → OkD (wk tellD k d A ch).2.1 →
        Ev (fun q => gladstoneref46_Decode.l0 q many (n : Int) (wk tellD k d A ch).2.2 (out ++ [(((wk tellD k d A ch).1 : Int) - (2 ^ n : Nat))]) (wrap64 (i + 1)) ((wk tellD k d A ch).2.1.1 : Int) ((wk tellD k d A ch).2.1.2.1 : Int) ((wk tellD k d A ch).2.1.2.2.1 : Int) (wk tellD k d A ch).2.1.2.2.2) R) →
      Ev (fun q => gladstoneref46_Decode.l1 q many (n : Int) ch out i (A : Int) ((n : Int) - k) (d.1 : Int) (d.2.1 : Int) (d.2.2.1 : Int) d.2.2.2) R := by
  intro k
  have hn9 := pow9 hn
  induction k with
  | zero =>
    intro _ A d ch hA hl hF hd h
    rw [Nat.sub_zero] at hA
    have h' := h hA hl hF hd
    refine Ev.step (fun q => ?_) h'
    simp only [gladstoneref46_Decode.l1]
    rw [if_neg (by omega), if_pos (by rw [wu64 (by omega) (by omega)]; omega), if_pos (by omega), shl9 hn, w64 (x := (A : Int) - (2 ^ n : Nat)) (by omega) (by omega)]
    rfl
  | succ k ih =>
    intro hk A d ch hA hl hF hd h
    have hA2 : A < ch.length := by
      rw [hl]
      refine Nat.lt_of_lt_of_le hA ?_
      rw [← Nat.pow_succ']
      exact Nat.pow_le_pow_right (by omega) (by omega)
    have hpp := hF.at_ hA2
    have hrd : rd ch (A : Int) = ch.getD A 0 := rd_nat ch A
    rw [wk] at h
    obtain ⟨p, ep⟩ : ∃ p, ch.getD A 0 = p := ⟨_, rfl⟩
    rw [ep] at hpp hrd h
    obtain ⟨p, rfl⟩ : ∃ q : Nat, p = q := ⟨p.toNat, by omega⟩
    have hnk : 2 ^ (n - k) = 2 * 2 ^ (n - (k + 1)) := by
      rw [← Nat.pow_succ']; congr 1; omega
    have et : tellD d (p : Int) k = (dB d p, dN d p) := by unfold tellD; rw [Int.toNat_natCast]
    rw [et] at h
    have hbb : (if dB d p then 1 else 0) ≤ 1 := by split <;> omega
    have h1 := ih (by omega) (2 * A + if dB d p then 1 else 0) (dN d p) (ch.set A (upd p (dB d p))) (by omega) (by rw [List.length_set]; exact hl) (hF.set A (upd_in hpp.1 hpp.2)) (dN_ok hd (by omega)) h
    refine Ev.step (f := fun q => (gladstoneref45_Bit.f q (d.1 : Int) (d.2.1 : Int) (d.2.2.1 : Int) d.2.2.2 (p : Int)).bind fun bt => (gladstoneref44_Update.f (p : Int) bt.2.2.2.2.1).bind fun bt2 => (some (ch.set A bt2.1)).bind fun y => if bt.2.2.2.2.1 = true then gladstoneref46_Decode.l1 q many (n : Int) y out i ((A : Int) * 2 + 1) ((n : Int) - k) bt.1 bt.2.1 bt.2.2.1 bt.2.2.2.1 else gladstoneref46_Decode.l1 q many (n : Int) y out i ((A : Int) * 2) ((n : Int) - k) bt.1 bt.2.1 bt.2.2.1 bt.2.2.2.1) (fun q => ?_) ?_
    · simp only [gladstoneref46_Decode.l1]
      rw [if_pos (by omega), if_pos (by omega), if_pos (by omega), hrd, Int.toNat_natCast, w64 (x := (n : Int) - ((k + 1 : Nat) : Int) + 1) (by omega) (by omega), w64 (x := (A : Int) * 2) (by omega) (by omega), w64 (x := (A : Int) * 2 + 1) (by omega) (by omega), show (n : Int) - ((k + 1 : Nat) : Int) + 1 = (n : Int) - k by omega]
    · refine Ev.bind (bit_ev d p hd (by omega) (by omega)) ?_
      simp only []
      rw [update_ok _ _ (by omega) (by omega)]
      simp only [Option.bind_some]
      cases hb : dB d p with
      | true =>
        rw [hb] at h1
        refine Ev.ifp rfl ?_
        have e : ((2 * A + if true = true then 1 else 0 : Nat) : Int) = (A : Int) * 2 + 1 := by rw [if_pos rfl]; omega
        rw [e] at h1
        exact h1
      | false =>
        rw [hb] at h1
        refine Ev.ifn (by decide) ?_
        have e : ((2 * A + if false = true then 1 else 0 : Nat) : Int) = (A : Int) * 2 := by rw [if_neg (by decide)]; omega
        rw [e] at h1
        exact h1
theorem dec_l0 (n : Nat) (hn : n ≤ 9) (many : Nat) (hm : many ≤ 1048576) (r : Nat) : ∀ (i : Nat) (out : List Int) (d : Ds) (ch : List Int), i + r = many → out.length = i → ch.length = 2 ^ n → FineC ch → OkD d →
    Ev (fun q => gladstoneref46_Decode.l0 q (many : Int) (n : Int) ch out (i : Int) (d.1 : Int) (d.2.1 : Int) (d.2.2.1 : Int) d.2.2.2) (out ++ decT n (2 ^ n) r d ch, 0) := by
  induction r with
  | zero =>
    intro i out d ch hi ho _ _ _
    refine Ev.step (f := fun _ => some (out, 0)) (fun q => ?_) (Ev.some (by simp [decT]))
    simp only [gladstoneref46_Decode.l0]
    rw [if_neg (by omega)]
  | succ r ih =>
    intro i out d ch hi ho hl hF hd
    rw [decT]
    have h1 := dec_l1 n hn (many : Int) (i : Int) out (by omega) (out ++ ((((wk tellD n d 1 ch).1 : Int) - (2 ^ n : Nat)) :: decT n (2 ^ n) r (wk tellD n d 1 ch).2.1 (wk tellD n d 1 ch).2.2), 0) n (Nat.le_refl _) 1 d ch (by simp) hl hF hd (fun _ h2 h3 h4 => by
      have h := ih (i + 1) (out ++ [(((wk tellD n d 1 ch).1 : Int) - (2 ^ n : Nat))]) _ _ (by omega) (by simp; omega) h2 h3 h4
      rw [w64 (x := (i : Int) + 1) (by omega) (by omega)]
      rw [List.append_assoc] at h
      exact h)
    refine Ev.step (fun q => ?_) h1
    simp only [gladstoneref46_Decode.l0]
    rw [if_pos (by omega), Int.sub_self]
    rfl
theorem rbt_dec (s : ByteArray) (many n : Int) : Ev (fun q => gladstoneref46_Decode.f q s many n) (btDec s many n) := by
  unfold gladstoneref46_Decode.f btDec
  have hj : Ev (fun q => gladstoneref46_Decode.j0 q s many n true) (([] : List Int), (1 : Int)) := by
    refine Ev.step (f := fun _ => some (([] : List Int), (1 : Int))) (fun q => ?_) (Ev.now _)
    simp only [gladstoneref46_Decode.j0]
    rw [if_pos trivial]
  by_cases h1 : n < 1
  · rw [if_pos (Or.inl h1)]; exact Ev.ifp h1 hj
  · refine Ev.ifn h1 ?_
    by_cases h2 : n > 9
    · rw [if_pos (Or.inr (Or.inl h2))]; exact Ev.ifp h2 hj
    · refine Ev.ifn h2 ?_
      by_cases h3 : many < 0
      · rw [if_pos (Or.inr (Or.inr (Or.inl h3)))]; exact Ev.ifp h3 hj
      · refine Ev.ifn h3 ?_
        by_cases h4 : many > 1048576
        · rw [if_pos (Or.inr (Or.inr (Or.inr h4))), decide_eq_true h4]; exact hj
        · rw [if_neg (by omega), decide_eq_false h4]
          obtain ⟨m, rfl⟩ : ∃ m : Nat, n = m := ⟨n.toNat, by omega⟩
          obtain ⟨mn, rfl⟩ : ∃ m : Nat, many = m := ⟨many.toNat, by omega⟩
          rw [Int.toNat_natCast, Int.toNat_natCast]
          refine Ev.step (f := fun q => (gladstoneref46_fresh.f q (m : Int)).bind fun t => (gladstoneref45_New.f q s).bind fun bt => gladstoneref46_Decode.l0 q (mn : Int) (m : Int) t ([] : List Int) 0 bt.1 bt.2.1 bt.2.2.1 bt.2.2.2) (fun q => ?_) ?_
          · simp only [gladstoneref46_Decode.j0]
            rw [if_neg (by decide)]
          · refine Ev.bind (fresh_ev m (by omega)) (Ev.bind (new_ev s) ?_)
            exact dec_l0 m (by omega) mn (by omega) mn 0 [] (dStart s) (List.replicate (2 ^ m) 1024) (by omega) rfl (by simp) (fineC_new m) (dStart_ok s)
theorem dec_length (n M : Nat) : ∀ (r : Nat) (d : Ds) (ch : List Int), (decT n M r d ch).length = r := by
  intro r
  induction r with
  | zero => intro d ch; rfl
  | succ r ih => intro d ch; rw [decT, List.length_cons, ih]
theorem BittreeCodes (l : List Int) (y0 : l.length * 8 ≤ 140737488351232) (hw : ∀ x ∈ l, (Lit.int .i64 x).wf = true) (s : ByteArray) (ws : s.size ≤ 140737488351232) (many n : Int) : ∃ k, gladstonelaw46_BittreeCodes.f k l s many n = some true := by
  apply Ev.rounds
  have hj : Ev (fun k => gladstonelaw46_BittreeCodes.j0 k l s true many n) true := by
    refine Ev.step (fun k => ?_) awake_ev'
    simp only [gladstonelaw46_BittreeCodes.j0]
    rw [if_pos trivial]
  unfold gladstonelaw46_BittreeCodes.f
  by_cases h1 : (l.length : Int) > 300
  · exact Ev.ifp h1 hj
  refine Ev.ifn h1 ?_
  by_cases h2 : (s.size : Int) > 300
  · exact Ev.ifp h2 hj
  refine Ev.ifn h2 ?_
  have hwl : ∀ x ∈ l, x < 9223372036854775808 := fun x hx => by have := wf_i64 (hw x hx); omega
  have hf : ¬ (300 < many ∧ many ≤ 1048576) → Ev (fun k => gladstonelaw46_BittreeCodes.j0 k l s false many n) true := by
    intro hm
    have hdl : (btDec s many n).1.length ≤ 1048576 := by
      unfold btDec
      split
      · exact Nat.zero_le _
      · rename_i hc
        show (decT _ _ _ _ _).length ≤ _
        rw [dec_length]
        omega
    refine Ev.step (f := fun k => (gladstoneref46_Encode.f k l n).bind fun bt222 => (gladstoneref46_Decode.f k s many n).bind fun bt228 => if (btEnc l n).1.toList = bt222.1.toList then (if (btEnc l n).2 = bt222.2 then ((gladstoneref08_Ints.f k (btDec s many n).1 bt228.1).bind fun t232 => (if t232 = true then (if (btDec s many n).2 = bt228.2 then ((gladstonelaw46_awake.f k).bind fun t233 => (some t233)) else (some false)) else (some false))) else (some false)) else (some false)) (fun k => ?_) ?_
    · simp only [gladstonelaw46_BittreeCodes.j0]
      have e1 : bittree_Encode.f l n = some (btEnc l n) := if_pos (by omega)
      rw [if_neg (by decide), e1]
      rfl
    · refine Ev.bind (rbt_enc l n hwl (by omega)) (Ev.bind (rbt_dec s many n) ?_)
      refine Ev.ifp rfl (Ev.ifp rfl ?_)
      exact Ev.bind (ints_ev _ (by omega)) (Ev.ifp rfl (Ev.ifp rfl awake_ev'))
  by_cases h3 : many > 300
  · refine Ev.ifp h3 ?_
    by_cases h4 : many ≤ 1048576
    · rw [decide_eq_true h4]; exact hj
    · rw [decide_eq_false h4]; exact hf (by omega)
  · exact Ev.ifn h3 (hf (by omega))
end Go.Proofs.Ytihpgdbggjhffaa.Pure
