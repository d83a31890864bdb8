/- The plain law of chapter 45: what is encoded is decoded as it was. -/
import Derived.Test.YtdifgiceallpiaaDoorZHRgA
import Derived.Test.YtdifgiceallpiaaDoorZByt
set_option linter.unusedVariables false
set_option linter.unusedSimpArgs false
set_option linter.unusedSectionVars false
namespace Go.Proofs.YtdifgiceallpiaaDoor.Pure
open Go Go.RowKit Go.Proofs.YtdifgiceallpiaaDoorW.PrintWords Go.Proofs.YtdifgiceallpiaaDoorW.PrintMore Go.Proofs.YtdifgiceallpiaaDoor.P Go.Proofs.YtdifgiceallpiaaDoor.Com Go.Proofs.YtdifgiceallpiaaDoor.Rn Go.Proofs.YtdifgiceallpiaaDoor.Hd
/-- Four bytes as a number. -/
def v4 : List Nat → Nat
  | c0 :: c1 :: c2 :: c3 :: _ => c0 * 16777216 + c1 * 65536 + c2 * 256 + c3
  | _ => 0
/-- All bytes from here on, as numbers. -/
def lastN (a : Nat) : List Nat := [a / 16777216 % 256, a / 65536 % 256, a / 256 % 256, a % 256]
def encN : List Bool → List Int → Nat → Nat → List Nat
  | bit :: t, p :: ps, a, b => (norm 4 (tk a b p.toNat bit).1 (tk a b p.toNat bit).2).1 ++ encN t ps (norm 4 (tk a b p.toNat bit).1 (tk a b p.toNat bit).2).2.1 (norm 4 (tk a b p.toNat bit).1 (tk a b p.toNat bit).2).2.2
  | _, _, a, _ => lastN a
theorem last_zi (a : Nat) : lastB a 4 = zi (lastN a) := by
  simp [lastB, zi, lastN, List.range, List.range.loop]
theorem enc_zi (t : List Bool) : ∀ (ps : List Int) (a b : Nat), enc t ps a b = zi (encN t ps a b) := by
  induction t with
  | nil => intro ps a b; exact last_zi a
  | cons bit t ih =>
    intro ps a b
    cases ps with
    | nil => exact last_zi a
    | cons p ps => rw [enc, encN, zi_append, ih]
theorem encN_nil (ps : List Int) (a b : Nat) : encN [] ps a b = lastN a := by cases ps <;> rfl
theorem encN_none (l : List Bool) (a b : Nat) : encN l [] a b = lastN a := by cases l <;> rfl
theorem lastN_lt (a : Nat) : ∀ x ∈ lastN a, x < 256 := by
  intro x hx
  simp [lastN] at hx
  omega
theorem encN_len (t : List Bool) : ∀ (ps : List Int) (a b : Nat), 4 ≤ (encN t ps a b).length := by
  induction t with
  | nil => intro ps a b; rw [encN_nil]; exact Nat.le_refl _
  | cons bit t ih =>
    intro ps a b
    cases ps with
    | nil => rw [encN_none]; exact Nat.le_refl _
    | cons p ps =>
      rw [encN, List.length_append]
      have := ih ps (norm 4 (tk a b p.toNat bit).1 (tk a b p.toNat bit).2).2.1 (norm 4 (tk a b p.toNat bit).1 (tk a b p.toNat bit).2).2.2
      omega
theorem v4_cons {c : Nat} {S : List Nat} (hc : c < 256) (hS : ∀ x ∈ S, x < 256) (hl : 4 ≤ S.length) : v4 (c :: S) = c * 16777216 + v4 S / 256 := by
  match S, hl with
  | c0 :: c1 :: c2 :: c3 :: _, _ =>
    have h0 := hS c0 (by simp)
    have h1 := hS c1 (by simp)
    have h2 := hS c2 (by simp)
    have h3 := hS c3 (by simp)
    simp only [v4]
    omega
theorem encN_lt (t : List Bool) : ∀ (ps : List Int) (a b : Nat), a < b → b < 4294967296 → (∀ p ∈ ps, 1 ≤ p ∧ p ≤ 2047) → ∀ x ∈ encN t ps a b, x < 256 := by
  induction t with
  | nil => intro ps a b _ _ _ x hx; rw [encN_nil] at hx; exact lastN_lt a x hx
  | cons bit t ih =>
    intro ps a b hab hb hp x hx
    cases ps with
    | nil => rw [encN_none] at hx; exact lastN_lt a x hx
    | cons p ps =>
      have hp0 := hp p (List.mem_cons_self ..)
      have ht := tk_ok (p := p.toNat) (bit := bit) hab (by omega)
      have hn := norm_end (Wd.start ht.2.1 (Nat.lt_of_le_of_lt ht.2.2 hb))
      rw [encN] at hx
      rcases List.mem_append.1 hx with hx | hx
      · exact hn.2.2.2 x hx
      · exact ih ps _ _ hn.2.1 hn.2.2.1 (fun q hq => hp q (List.mem_cons_of_mem _ hq)) x hx
/-- Bytes that go ahead of a number within what is left. -/
theorem norm_in (f : Nat) : ∀ (a b : Nat) (S : List Nat), Wd f a b → (∀ x ∈ S, x < 256) → 4 ≤ S.length → (norm f a b).2.1 ≤ v4 S → v4 S ≤ (norm f a b).2.2 → a ≤ v4 ((norm f a b).1 ++ S) ∧ v4 ((norm f a b).1 ++ S) ≤ b := by
  induction f with
  | zero => intro a b S h hS hl h1 h2; exact ⟨h1, h2⟩
  | succ f ih =>
    intro a b S h hS hl h1 h2
    rw [norm] at h1 h2 ⊢
    by_cases e : a / 16777216 = b / 16777216
    · rw [if_pos e] at h1 h2 ⊢
      have h3 := ih (sa a) (sb b) S (h.step e) hS hl h1 h2
      have hn := norm_end (h.step e)
      have hab := h.1
      have hb := h.2.1
      have hv := v4_cons (c := a / 16777216) (S := (norm f (sa a) (sb b)).1 ++ S) (by omega) (fun x hx => (List.mem_append.1 hx).elim (hn.2.2.2 x) (hS x)) (by rw [List.length_append]; omega)
      have e2 : (a / 16777216 :: (norm f (sa a) (sb b)).1, (norm f (sa a) (sb b)).2).1 ++ S = a / 16777216 :: ((norm f (sa a) (sb b)).1 ++ S) := rfl
      rw [e2, hv]
      clear hv hn ih h1 h2
      generalize v4 ((norm f (sa a) (sb b)).1 ++ S) = z at h3 ⊢
      unfold sa sb at h3
      omega
    · rw [if_neg e] at h1 h2 ⊢
      exact ⟨h1, h2⟩
theorem v4_last {a : Nat} (ha : a < 4294967296) (S : List Nat) : v4 (lastN a ++ S) = a := by
  simp only [lastN, List.cons_append, List.nil_append, v4]
  omega
theorem enc_in (t : List Bool) : ∀ (ps : List Int) (a b : Nat) (T : List Nat), a < b → b < 4294967296 → (∀ p ∈ ps, 1 ≤ p ∧ p ≤ 2047) → (∀ x ∈ T, x < 256) → a ≤ v4 (encN t ps a b ++ T) ∧ v4 (encN t ps a b ++ T) ≤ b := by
  induction t with
  | nil => intro ps a b T hab hb _ _; rw [encN_nil, v4_last (by omega)]; omega
  | cons bit t ih =>
    intro ps a b T hab hb hp hT
    cases ps with
    | nil => rw [encN_none, v4_last (by omega)]; omega
    | cons p ps =>
      have hp0 := hp p (List.mem_cons_self ..)
      have hps := fun q hq => hp q (List.mem_cons_of_mem _ hq)
      have ht := tk_ok (p := p.toNat) (bit := bit) hab (by omega)
      have hw := Wd.start ht.2.1 (Nat.lt_of_le_of_lt ht.2.2 hb)
      have hn := norm_end hw
      have h1 := ih ps _ _ T hn.2.1 hn.2.2.1 hps hT
      rw [encN, List.append_assoc]
      have h2 := norm_in 4 _ _ _ hw (fun x hx => (List.mem_append.1 hx).elim (encN_lt t ps _ _ hn.2.1 hn.2.2.1 hps x) (hT x)) (by rw [List.length_append]; have := encN_len t ps (norm 4 (tk a b p.toNat bit).1 (tk a b p.toNat bit).2).2.1 (norm 4 (tk a b p.toNat bit).1 (tk a b p.toNat bit).2).2.2; omega) h1.1 h1.2
      omega
/-- A decoder that stands at these bytes. -/
def Rep (S : List Nat) (x : Nat) (s : ByteArray) : Prop := 4 ≤ S.length ∧ x = v4 S ∧ nb s = S.drop 4
theorem bt0 (s : ByteArray) : bt s 0 = (((nb s).getD 0 0 : Nat) : Int) := bt_nb s 0
theorem nxS_nb {s : ByteArray} {c : Nat} {t : List Nat} (h : nb s = c :: t) : nb (nxS s) = t ∧ s.size = t.length + 1 ∧ (bt s 0).toNat = c := by
  have hs : s.size = t.length + 1 := by rw [← nb_length, h]; rfl
  refine ⟨?_, hs, by rw [bt0, h]; rfl⟩
  unfold nxS
  rw [if_neg (by omega), nb_extract, h, hs]
  simp
theorem Rep.step {c : Nat} {S : List Nat} {x : Nat} {s : ByteArray} (h : Rep (c :: S) x s) (hl : 4 ≤ S.length) (hS : ∀ y ∈ c :: S, y < 256) : Rep S (nxX x s) (nxS s) := by
  obtain ⟨h1, h2, h3⟩ := h
  match S, hl with
  | c0 :: c1 :: c2 :: c3 :: r, hl =>
    have h3' : nb s = c3 :: r := h3
    obtain ⟨e1, e2, e3⟩ := nxS_nb h3'
    have k0 := hS c0 (by simp)
    have k1 := hS c1 (by simp)
    have k2 := hS c2 (by simp)
    have k3 := hS c3 (by simp)
    refine ⟨hl, ?_, e1⟩
    unfold nxX
    rw [if_neg (by omega), e3, h2]
    simp only [v4]
    omega
theorem nrm_rep (f : Nat) : ∀ (a b x : Nat) (s : ByteArray) (S : List Nat), Wd f a b → Rep ((norm f a b).1 ++ S) x s → 4 ≤ S.length → (∀ y ∈ S, y < 256) →
    (nrm f a b x s).1 = (norm f a b).2.1 ∧ (nrm f a b x s).2.1 = (norm f a b).2.2 ∧ Rep S (nrm f a b x s).2.2.1 (nrm f a b x s).2.2.2 := by
  induction f with
  | zero => intro a b x s S h hr hl hS; exact ⟨rfl, rfl, hr⟩
  | succ f ih =>
    intro a b x s S h hr hl hS
    rw [norm] at hr ⊢
    rw [nrm]
    by_cases e : a / 16777216 = b / 16777216
    · rw [if_pos e] at hr ⊢
      rw [if_pos e]
      have hn := norm_end (h.step e)
      have hab := h.1
      have hb := h.2.1
      have hr2 : Rep (a / 16777216 :: ((norm f (sa a) (sb b)).1 ++ S)) x s := hr
      refine ih (sa a) (sb b) _ _ S (h.step e) (hr2.step (by rw [List.length_append]; omega) (fun y hy => ?_)) hl hS
      rcases List.mem_cons.1 hy with rfl | hy
      · omega
      · exact (List.mem_append.1 hy).elim (hn.2.2.2 y) (hS y)
    · rw [if_neg e] at hr ⊢
      rw [if_neg e]
      exact ⟨rfl, rfl, hr⟩
theorem dec_enc (t : List Bool) : ∀ (ps : List Int) (d : Ds) (T : List Nat), ps.length = t.length → d.1 < d.2.1 → d.2.1 < 4294967296 → (∀ p ∈ ps, 1 ≤ p ∧ p ≤ 2047) → (∀ x ∈ T, x < 256) → Rep (encN t ps d.1 d.2.1 ++ T) d.2.2.1 d.2.2.2 → dec ps d = t := by
  induction t with
  | nil =>
    intro ps d T hl _ _ _ _ _
    rw [List.eq_nil_of_length_eq_zero hl]; rfl
  | cons bit t ih =>
    intro ps d T hl hab hb hp hT hr
    cases ps with
    | nil => simp at hl
    | cons p ps =>
      have hp0 := hp p (List.mem_cons_self ..)
      have hps := fun q hq => hp q (List.mem_cons_of_mem _ hq)
      have ht := tk_ok (p := p.toNat) (bit := bit) hab (by omega)
      have hw := Wd.start ht.2.1 (Nat.lt_of_le_of_lt ht.2.2 hb)
      have hn := norm_end hw
      have hS : ∀ x ∈ encN t ps (norm 4 (tk d.1 d.2.1 p.toNat bit).1 (tk d.1 d.2.1 p.toNat bit).2).2.1 (norm 4 (tk d.1 d.2.1 p.toNat bit).1 (tk d.1 d.2.1 p.toNat bit).2).2.2 ++ T, x < 256 := fun x hx => (List.mem_append.1 hx).elim (encN_lt t ps _ _ hn.2.1 hn.2.2.1 hps x) (hT x)
      have hlen : 4 ≤ (encN t ps (norm 4 (tk d.1 d.2.1 p.toNat bit).1 (tk d.1 d.2.1 p.toNat bit).2).2.1 (norm 4 (tk d.1 d.2.1 p.toNat bit).1 (tk d.1 d.2.1 p.toNat bit).2).2.2 ++ T).length := by
        rw [List.length_append]
        have := encN_len t ps (norm 4 (tk d.1 d.2.1 p.toNat bit).1 (tk d.1 d.2.1 p.toNat bit).2).2.1 (norm 4 (tk d.1 d.2.1 p.toNat bit).1 (tk d.1 d.2.1 p.toNat bit).2).2.2
        omega
      rw [encN, List.append_assoc] at hr
      have h1 := enc_in t ps _ _ T hn.2.1 hn.2.2.1 hps hT
      have h2 := norm_in 4 _ _ _ hw hS hlen h1.1 h1.2
      rw [← hr.2.1] at h2
      have hbit : dB d p.toNat = bit := by
        unfold dB bitB
        cases bit with
        | true =>
          have e : (tk d.1 d.2.1 p.toNat true).1 = mid d.1 d.2.1 p.toNat + 1 := rfl
          rw [e] at h2
          exact decide_eq_true (by omega)
        | false =>
          have e : (tk d.1 d.2.1 p.toNat false).2 = mid d.1 d.2.1 p.toNat := rfl
          rw [e] at h2
          exact decide_eq_false (by omega)
      have h3 := nrm_rep 4 _ _ _ _ _ hw hr hlen hS
      rw [dec, hbit]
      congr 1
      have e1 : dN d p.toNat = nrm 4 (tk d.1 d.2.1 p.toNat bit).1 (tk d.1 d.2.1 p.toNat bit).2 d.2.2.1 d.2.2.2 := by unfold dN; rw [hbit]
      rw [e1]
      refine ih ps _ T (by simpa using hl) (by rw [h3.1, h3.2.1]; exact hn.2.1) (by rw [h3.2.1]; exact hn.2.2.1) hps hT ?_
      rw [h3.1, h3.2.1]
      exact h3.2.2
theorem dec_enc0 (l : List Bool) (ps : List Int) (T : List Nat) (hl : ps.length = l.length) (hp : ∀ p ∈ ps, 1 ≤ p ∧ p ≤ 2047) (hT : ∀ x ∈ T, x < 256) {x : Nat} {s : ByteArray} (hr : Rep (encN l ps 0 4294967295 ++ T) x s) : dec ps (0, 4294967295, x, s) = l :=
  dec_enc l ps (0, 4294967295, x, s) T hl (Nat.zero_lt_succ _) (Nat.lt_succ_self _) hp hT hr
theorem start_rep {s : ByteArray} {S : List Nat} (h : nb s = S) (hl : 4 ≤ S.length) (hS : ∀ y ∈ S, y < 256) : Rep S (nit 4 0 s).1 (nit 4 0 s).2 := by
  match S, hl with
  | c0 :: c1 :: c2 :: c3 :: r, hl =>
    obtain ⟨a1, a2, a3⟩ := nxS_nb h
    obtain ⟨b1, b2, b3⟩ := nxS_nb a1
    obtain ⟨c1', c2', c3'⟩ := nxS_nb b1
    obtain ⟨d1, d2, d3⟩ := nxS_nb c1'
    have k0 := hS c0 (by simp)
    have k1 := hS c1 (by simp)
    have k2 := hS c2 (by simp)
    have k3 := hS c3 (by simp)
    refine ⟨hl, ?_, d1⟩
    simp only [nit]
    unfold nxX
    rw [if_neg (by omega), if_neg (by omega), if_neg (by omega), if_neg (by omega), a3, b3, c3', d3]
    simp only [v4]
    omega
/-- Decoded as it was. -/
theorem back (l : List Bool) (ps : List Int) (T : ByteArray) (hl : l.length = ps.length) (hp : ∀ p ∈ ps, 1 ≤ p ∧ p ≤ 2047) : dec ps (dStart ((encP l ps).1 ++ T)) = l ∧ (encP l ps).2 = 0 := by
  have hb : ps.any badP = false := by
    rw [List.any_eq_false]
    intro x hx
    have := hp x hx
    unfold badP
    rw [decide_eq_true_eq]
    omega
  unfold encP
  rw [if_neg (fun e => e hl), hb, if_neg (by decide)]
  by_cases h0 : l.length = 0
  · rw [if_pos h0]
    rw [List.eq_nil_of_length_eq_zero h0, List.eq_nil_of_length_eq_zero (hl ▸ h0 : ps.length = 0)]
    exact ⟨rfl, rfl⟩
  · rw [if_neg h0]
    refine ⟨?_, rfl⟩
    have hlt := encN_lt l ps 0 4294967295 (by decide) (by decide) hp
    have hs : nb (strOfNums (enc l ps 0 4294967295) ++ T) = encN l ps 0 4294967295 ++ nb T := by
      rw [nb_append, enc_zi]
      congr 1
      exact nb_str _ hlt
    have hT := nb_lt T
    have hr := start_rep hs (by rw [List.length_append]; have := encN_len l ps 0 4294967295; omega) (fun y hy => (List.mem_append.1 hy).elim (hlt y) (hT y))
    unfold dStart
    exact dec_enc0 l ps _ hl.symm hp hT hr
end Go.Proofs.YtdifgiceallpiaaDoor.Pure
