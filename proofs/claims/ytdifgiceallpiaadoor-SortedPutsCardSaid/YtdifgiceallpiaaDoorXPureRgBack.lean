/- The plain law of chapter 45: what is encoded is decoded as it was. -/
import Derived.Test.YtdifgiceallpiaaDoorXRn
import Derived.Test.YtdifgiceallpiaaDoorXByt
import Derived.Test.YtdifgiceallpiaaDoorXHBtr
import Derived.Test.YtdifgiceallpiaaDoorXCom
set_option linter.unusedVariables false
set_option linter.unusedSimpArgs false
set_option linter.unusedSectionVars false
section
namespace Go.Proofs.YtdifgiceallpiaaDoor.Pure
open Go Go.RowKit YtdifgiceallpiaaDoorW.PrintWords YtdifgiceallpiaaDoorW.PrintMore YtdifgiceallpiaaDoor.P YtdifgiceallpiaaDoor.Com YtdifgiceallpiaaDoor.Rn YtdifgiceallpiaaDoor.Hd
def v4 : List Nat → Nat
 | c0 :: c1 :: c2 :: c3 :: _ => c0 * 16777216 + c1 * 65536 + c2 * 256 + c3
 | _ => 0
def lastN (a : Nat) : List Nat := [a / 16777216 % 256, a / 65536 % 256, a / 256 % 256, a % 256]
def encN : List Bool → List Int → Nat → Nat → List Nat
 | bit :: t, p :: ps, a, b => (norm 4 (tk a b p.toNat bit).1 (tk a b p.toNat bit).2).1 ++ encN t ps (norm 4 (tk a b p.toNat bit).1 (tk a b p.toNat bit).2).2.1 (norm 4 (tk a b p.toNat bit).1 (tk a b p.toNat bit).2).2.2
 | _, _, a, _ => lastN a
theorem last_zi (a : Nat) : lastB a 4 = zi (lastN a) := by
 simp [lastB, zi, lastN, List.range, List.range.loop]
theorem enc_zi (t : List Bool) : ∀ (ps : List Int) (a b : Nat), enc t ps a b = zi (encN t ps a b) := by
 induction t with
 | nil => intro ps a b; exact last_zi a
 | cons bit t ih =>
  intro ps a b
  cases ps with
  | nil => exact last_zi a
  | cons p ps => rw [enc, encN, zi_append, ih]
theorem encN_nil (ps : List Int) (a b : Nat) : encN [] ps a b = lastN a := by cases ps <;> rfl
theorem encN_none (l : List Bool) (a b : Nat) : encN l [] a b = lastN a := by cases l <;> rfl
theorem lastN_lt (a : Nat) : ∀ x ∈ lastN a, x < 256 := by
 intro x hx
 simp [lastN] at hx
 omega
theorem encN_len (t : List Bool) : ∀ (ps : List Int) (a b : Nat), 4 ≤ (encN t ps a b).length := by
 induction t with
 | nil => intro ps a b; rw [encN_nil]; exact Nat.le_refl _
 | cons bit t ih =>
  intro ps a b
  cases ps with
  | nil => rw [encN_none]; exact Nat.le_refl _
  | cons p ps =>
   rw [encN, List.length_append]
   have := ih ps (norm 4 (tk a b p.toNat bit).1 (tk a b p.toNat bit).2).2.1 (norm 4 (tk a b p.toNat bit).1 (tk a b p.toNat bit).2).2.2
   omega
theorem v4_cons {c : Nat} {S : List Nat} (hc : c < 256) (hS : ∀ x ∈ S, x < 256) (hl : 4 ≤ S.length) : v4 (c :: S) = c * 16777216 + v4 S / 256 := by
 match S, hl with
 | c0 :: c1 :: c2 :: c3 :: _, _ =>
  have h0 := hS c0 (by simp)
  have h1 := hS c1 (by simp)
  have h2 := hS c2 (by simp)
  have h3 := hS c3 (by simp)
  simp only [v4]
  omega
theorem encN_lt (t : List Bool) : ∀ (ps : List Int) (a b : Nat), a < b → b < 4294967296 → (∀ p ∈ ps, 1 ≤ p ∧ p ≤ 2047) → ∀ x ∈ encN t ps a b, x < 256 := by
 induction t with
 | nil => intro ps a b _ _ _ x hx; rw [encN_nil] at hx; exact lastN_lt a x hx
 | cons bit t ih =>
  intro ps a b hab hb hp x hx
  cases ps with
  | nil => rw [encN_none] at hx; exact lastN_lt a x hx
  | cons p ps =>
   have hp0 := hp p (List.mem_cons_self ..)
   have ht := tk_ok (p := p.toNat) (bit := bit) hab (by omega)
   have hn := norm_end (Wd.start ht.2.1 (Nat.lt_of_le_of_lt ht.2.2 hb))
   rw [encN] at hx
   rcases List.mem_append.1 hx with hx | hx
   ·exact hn.2.2.2 x hx
   ·exact ih ps _ _ hn.2.1 hn.2.2.1 (fun q hq => hp q (List.mem_cons_of_mem _ hq)) x hx
theorem norm_in (f : Nat) : ∀ (a b : Nat) (S : List Nat), Wd f a b → (∀ x ∈ S, x < 256) → 4 ≤ S.length → (norm f a b).2.1 ≤ v4 S → v4 S ≤ (norm f a b).2.2 → a ≤ v4 ((norm f a b).1 ++ S) ∧ v4 ((norm f a b).1 ++ S) ≤ b := by
 induction f with
 | zero => intro a b S h hS hl h1 h2; exact ⟨h1, h2⟩
 | succ f ih =>
  intro a b S h hS hl h1 h2
  rw [norm] at h1 h2 ⊢
  by_cases e : a / 16777216 = b / 16777216
  ·rw [if_pos e] at h1 h2 ⊢
   have h3 := ih (sa a) (sb b) S (h.step e) hS hl h1 h2
   have hn := norm_end (h.step e)
   have hab := h.1
   have hb := h.2.1
   have hv := v4_cons (c := a / 16777216) (S := (norm f (sa a) (sb b)).1 ++ S) (by omega) (fun x hx => (List.mem_append.1 hx).elim (hn.2.2.2 x) (hS x)) (by rw [List.length_append]; omega)
   have e2 : (a / 16777216 :: (norm f (sa a) (sb b)).1, (norm f (sa a) (sb b)).2).1 ++ S = a / 16777216 :: ((norm f (sa a) (sb b)).1 ++ S) := rfl
   rw [e2, hv]
   clear hv hn ih h1 h2
   generalize v4 ((norm f (sa a) (sb b)).1 ++ S) = z at h3 ⊢
   unfold sa sb at h3
   omega
  ·rw [if_neg e] at h1 h2 ⊢
   exact ⟨h1, h2⟩
theorem v4_last {a : Nat} (ha : a < 4294967296) (S : List Nat) : v4 (lastN a ++ S) = a := by
 simp only [lastN, List.cons_append, List.nil_append, v4]
 omega
theorem enc_in (t : List Bool) : ∀ (ps : List Int) (a b : Nat) (T : List Nat), a < b → b < 4294967296 → (∀ p ∈ ps, 1 ≤ p ∧ p ≤ 2047) → (∀ x ∈ T, x < 256) → a ≤ v4 (encN t ps a b ++ T) ∧ v4 (encN t ps a b ++ T) ≤ b := by
 induction t with
 | nil => intro ps a b T hab hb _ _; rw [encN_nil, v4_last (by omega)]; omega
 | cons bit t ih =>
  intro ps a b T hab hb hp hT
  cases ps with
  | nil => rw [encN_none, v4_last (by omega)]; omega
  | cons p ps =>
   have hp0 := hp p (List.mem_cons_self ..)
   have hps := fun q hq => hp q (List.mem_cons_of_mem _ hq)
   have ht := tk_ok (p := p.toNat) (bit := bit) hab (by omega)
   have hw := Wd.start ht.2.1 (Nat.lt_of_le_of_lt ht.2.2 hb)
   have hn := norm_end hw
   have h1 := ih ps _ _ T hn.2.1 hn.2.2.1 hps hT
   rw [encN, List.append_assoc]
   have h2 := norm_in 4 _ _ _ hw (fun x hx => (List.mem_append.1 hx).elim (encN_lt t ps _ _ hn.2.1 hn.2.2.1 hps x) (hT x)) (by rw [List.length_append]; have := encN_len t ps (norm 4 (tk a b p.toNat bit).1 (tk a b p.toNat bit).2).2.1 (norm 4 (tk a b p.toNat bit).1 (tk a b p.toNat bit).2).2.2; omega) h1.1 h1.2
   omega
def Rep (S : List Nat) (x : Nat) (s : ByteArray) : Prop := 4 ≤ S.length ∧ x = v4 S ∧ nb s = S.drop 4
theorem bt0 (s : ByteArray) : bt s 0 = (((nb s).getD 0 0 : Nat) : Int) := bt_nb s 0
theorem nxS_nb {s : ByteArray} {c : Nat} {t : List Nat} (h : nb s = c :: t) : nb (nxS s) = t ∧ s.size = t.length + 1 ∧ (bt s 0).toNat = c := by
 have hs : s.size = t.length + 1 := by rw [← zas, h]; rfl
 refine ⟨?_, hs, by rw [bt0, h]; rfl⟩
 unfold nxS
 rw [if_neg (by omega), nb_extract, h, hs]
 simp
theorem Rep.step {c : Nat} {S : List Nat} {x : Nat} {s : ByteArray} (h : Rep (c :: S) x s) (hl : 4 ≤ S.length) (hS : ∀ y ∈ c :: S, y < 256) : Rep S (nxX x s) (nxS s) := by
 obtain ⟨h1, h2, h3⟩ := h
 match S, hl with
 | c0 :: c1 :: c2 :: c3 :: r, hl =>
  have h3' : nb s = c3 :: r := h3
  obtain ⟨e1, e2, e3⟩ := nxS_nb h3'
  have k0 := hS c0 (by simp)
  have k1 := hS c1 (by simp)
  have k2 := hS c2 (by simp)
  have k3 := hS c3 (by simp)
  refine ⟨hl, ?_, e1⟩
  unfold nxX
  rw [if_neg (by omega), e3, h2]
  simp only [v4]
  omega
theorem nrm_rep (f : Nat) : ∀ (a b x : Nat) (s : ByteArray) (S : List Nat), Wd f a b → Rep ((norm f a b).1 ++ S) x s → 4 ≤ S.length → (∀ y ∈ S, y < 256) →
  (nrm f a b x s).1 = (norm f a b).2.1 ∧ (nrm f a b x s).2.1 = (norm f a b).2.2 ∧ Rep S (nrm f a b x s).2.2.1 (nrm f a b x s).2.2.2 := by
 induction f with
 | zero => intro a b x s S h hr hl hS; exact ⟨rfl, rfl, hr⟩
 | succ f ih =>
  intro a b x s S h hr hl hS
  rw [norm] at hr ⊢
  rw [nrm]
  by_cases e : a / 16777216 = b / 16777216
  ·rw [if_pos e] at hr ⊢
   rw [if_pos e]
   have hn := norm_end (h.step e)
   have hab := h.1
   have hb := h.2.1
   have hr2 : Rep (a / 16777216 :: ((norm f (sa a) (sb b)).1 ++ S)) x s := hr
   refine ih (sa a) (sb b) _ _ S (h.step e) (hr2.step (by rw [List.length_append]; omega) (fun y hy => ?_)) hl hS
   rcases List.mem_cons.1 hy with rfl | hy
   ·omega
   ·exact (List.mem_append.1 hy).elim (hn.2.2.2 y) (hS y)
  ·rw [if_neg e] at hr ⊢
   rw [if_neg e]
   exact ⟨rfl, rfl, hr⟩
theorem dec_enc (t : List Bool) : ∀ (ps : List Int) (d : Ds) (T : List Nat), ps.length = t.length → d.1 < d.2.1 → d.2.1 < 4294967296 → (∀ p ∈ ps, 1 ≤ p ∧ p ≤ 2047) → (∀ x ∈ T, x < 256) → Rep (encN t ps d.1 d.2.1 ++ T) d.2.2.1 d.2.2.2 → dec ps d = t := by
 induction t with
 | nil =>
  intro ps d T hl _ _ _ _ _
  rw [List.eq_nil_of_length_eq_zero hl]; rfl
 | cons bit t ih =>
  intro ps d T hl hab hb hp hT hr
  cases ps with
  | nil => simp at hl
  | cons p ps =>
   have hp0 := hp p (List.mem_cons_self ..)
   have hps := fun q hq => hp q (List.mem_cons_of_mem _ hq)
   have ht := tk_ok (p := p.toNat) (bit := bit) hab (by omega)
   have hw := Wd.start ht.2.1 (Nat.lt_of_le_of_lt ht.2.2 hb)
   have hn := norm_end hw
   have hS : ∀ x ∈ encN t ps (norm 4 (tk d.1 d.2.1 p.toNat bit).1 (tk d.1 d.2.1 p.toNat bit).2).2.1 (norm 4 (tk d.1 d.2.1 p.toNat bit).1 (tk d.1 d.2.1 p.toNat bit).2).2.2 ++ T, x < 256 := fun x hx => (List.mem_append.1 hx).elim (encN_lt t ps _ _ hn.2.1 hn.2.2.1 hps x) (hT x)
   have hlen : 4 ≤ (encN t ps (norm 4 (tk d.1 d.2.1 p.toNat bit).1 (tk d.1 d.2.1 p.toNat bit).2).2.1 (norm 4 (tk d.1 d.2.1 p.toNat bit).1 (tk d.1 d.2.1 p.toNat bit).2).2.2 ++ T).length := by
    rw [List.length_append]
    have := encN_len t ps (norm 4 (tk d.1 d.2.1 p.toNat bit).1 (tk d.1 d.2.1 p.toNat bit).2).2.1 (norm 4 (tk d.1 d.2.1 p.toNat bit).1 (tk d.1 d.2.1 p.toNat bit).2).2.2
    omega
   rw [encN, List.append_assoc] at hr
   have h1 := enc_in t ps _ _ T hn.2.1 hn.2.2.1 hps hT
   have h2 := norm_in 4 _ _ _ hw hS hlen h1.1 h1.2
   rw [← hr.2.1] at h2
   have hbit : dB d p.toNat = bit := by
    unfold dB bitB
    cases bit with
    | true =>
     have e : (tk d.1 d.2.1 p.toNat true).1 = mid d.1 d.2.1 p.toNat + 1 := rfl
     rw [e] at h2
     exact decide_eq_true (by omega)
    | false =>
     have e : (tk d.1 d.2.1 p.toNat false).2 = mid d.1 d.2.1 p.toNat := rfl
     rw [e] at h2
     exact decide_eq_false (by omega)
   have h3 := nrm_rep 4 _ _ _ _ _ hw hr hlen hS
   rw [dec, hbit]
   congr 1
   have e1 : dN d p.toNat = nrm 4 (tk d.1 d.2.1 p.toNat bit).1 (tk d.1 d.2.1 p.toNat bit).2 d.2.2.1 d.2.2.2 := by unfold dN; rw [hbit]
   rw [e1]
   refine ih ps _ T (by simpa using hl) (by rw [h3.1, h3.2.1]; exact hn.2.1) (by rw [h3.2.1]; exact hn.2.2.1) hps hT ?_
   rw [h3.1, h3.2.1]
   exact h3.2.2
theorem dec_enc0 (l : List Bool) (ps : List Int) (T : List Nat) (hl : ps.length = l.length) (hp : ∀ p ∈ ps, 1 ≤ p ∧ p ≤ 2047) (hT : ∀ x ∈ T, x < 256) {x : Nat} {s : ByteArray} (hr : Rep (encN l ps 0 4294967295 ++ T) x s) : dec ps (0, 4294967295, x, s) = l :=
 dec_enc l ps (0, 4294967295, x, s) T hl (Nat.zero_lt_succ _) (Nat.lt_succ_self _) hp hT hr
theorem start_rep {s : ByteArray} {S : List Nat} (h : nb s = S) (hl : 4 ≤ S.length) (hS : ∀ y ∈ S, y < 256) : Rep S (nit 4 0 s).1 (nit 4 0 s).2 := by
 match S, hl with
 | c0 :: c1 :: c2 :: c3 :: r, hl =>
  obtain ⟨a1, a2, a3⟩ := nxS_nb h
  obtain ⟨b1, b2, b3⟩ := nxS_nb a1
  obtain ⟨c1', c2', c3'⟩ := nxS_nb b1
  obtain ⟨d1, d2, d3⟩ := nxS_nb c1'
  have k0 := hS c0 (by simp)
  have k1 := hS c1 (by simp)
  have k2 := hS c2 (by simp)
  have k3 := hS c3 (by simp)
  refine ⟨hl, ?_, d1⟩
  simp only [nit]
  unfold nxX
  rw [if_neg (by omega), if_neg (by omega), if_neg (by omega), if_neg (by omega), a3, b3, c3', d3]
  simp only [v4]
  omega
theorem back (l : List Bool) (ps : List Int) (T : ByteArray) (hl : l.length = ps.length) (hp : ∀ p ∈ ps, 1 ≤ p ∧ p ≤ 2047) : dec ps (dStart ((encP l ps).1 ++ T)) = l ∧ (encP l ps).2 = 0 := by
 have hb : ps.any badP = false := by
  rw [List.any_eq_false]
  intro x hx
  have := hp x hx
  unfold badP
  rw [decide_eq_true_eq]
  omega
 unfold encP
 rw [if_neg (fun e => e hl), hb, if_neg (by decide)]
 by_cases h0 : l.length = 0
 ·rw [if_pos h0]
  rw [List.eq_nil_of_length_eq_zero h0, List.eq_nil_of_length_eq_zero (hl ▸ h0 : ps.length = 0)]
  exact ⟨rfl, rfl⟩
 ·rw [if_neg h0]
  refine ⟨?_, rfl⟩
  have hlt := encN_lt l ps 0 4294967295 (by decide) (by decide) hp
  have hs : nb (strOfNums (enc l ps 0 4294967295) ++ T) = encN l ps 0 4294967295 ++ nb T := by
   rw [nb_append, enc_zi]
   congr 1
   exact nb_str _ hlt
  have hT := nb_lt T
  have hr := start_rep hs (by rw [List.length_append]; have := encN_len l ps 0 4294967295; omega) (fun y hy => (List.mem_append.1 hy).elim (hlt y) (hT y))
  unfold dStart
  exact dec_enc0 l ps _ hl.symm hp hT hr
end Go.Proofs.YtdifgiceallpiaaDoor.Pure
end
section
namespace Go.Proofs.YtdifgiceallpiaaDoor.Pure
open Go Go.RowKit Go.Proofs.YtdifgiceallpiaaDoorW.PrintWords Go.Proofs.YtdifgiceallpiaaDoorW.PrintMore Go.Proofs.YtdifgiceallpiaaDoor.P Go.Proofs.YtdifgiceallpiaaDoor.Com Go.Proofs.YtdifgiceallpiaaDoor.Rn Go.Proofs.YtdifgiceallpiaaDoor.Hd
theorem bit_step (x k : Nat) : (if bitOf x k then 1 else 0) * 2 ^ k + x % 2 ^ k = x % 2 ^ (k + 1) := by
  unfold bitOf
  rw [Nat.pow_succ, Nat.mod_mul]
  rcases Nat.mod_two_eq_zero_or_one (x / 2 ^ k) with h | h <;> rw [h] <;> simp <;> omega
theorem wk_tr (n x : Nat) : ∀ k, k ≤ n → ∀ (A : Nat) (ch : List Int), A < 2 * 2 ^ (n - k) → ch.length = 2 ^ n → FineC ch →
    ∃ (bs : List Bool) (ps : List Int) (ch' : List Int), bs.length = k ∧ ps.length = k ∧ (∀ p ∈ ps, 31 ≤ p ∧ p ≤ 2017) ∧ ch'.length = 2 ^ n ∧ FineC ch' ∧
      (∀ st, wk (tellE x) k st A ch = (A * 2 ^ k + x % 2 ^ k, (st.1 ++ bs, st.2 ++ ps), ch')) ∧
      (∀ d q r, dec (ps ++ q) d = bs ++ r → ∃ d', wk tellD k d A ch = (A * 2 ^ k + x % 2 ^ k, d', ch') ∧ dec q d' = r) := by
  intro k
  induction k with
  | zero =>
    intro _ A ch hA hl hF
    refine ⟨[], [], ch, rfl, rfl, by simp, hl, hF, fun st => ?_, fun d q r h => ⟨d, ?_, h⟩⟩
    · simp [wk, Nat.mod_one]
    · simp [wk, Nat.mod_one]
  | succ k ih =>
    intro hk A ch hA hl hF
    have hA2 : A < ch.length := by
      rw [hl]
      refine Nat.lt_of_lt_of_le hA ?_
      rw [← Nat.pow_succ']
      exact Nat.pow_le_pow_right (by omega) (by omega)
    have hp := hF.at_ hA2
    obtain ⟨p, ep⟩ : ∃ p, ch.getD A 0 = p := ⟨_, rfl⟩
    rw [ep] at hp
    have hnk : 2 ^ (n - k) = 2 * 2 ^ (n - (k + 1)) := by
      rw [← Nat.pow_succ']; congr 1; omega
    have hb : (if bitOf x k then 1 else 0) ≤ 1 := by split <;> omega
    obtain ⟨bs, ps, ch', h1, h2, h3, h4, h5, h6, h7⟩ := ih (by omega) (2 * A + if bitOf x k then 1 else 0) (ch.set A (upd p (bitOf x k))) (by omega) (by rw [List.length_set]; exact hl) (hF.set A (upd_in hp.1 hp.2))
    have hs := bit_step x k
    have he : (2 * A + if bitOf x k then 1 else 0) * 2 ^ k + x % 2 ^ k = A * 2 ^ (k + 1) + x % 2 ^ (k + 1) := by
      rw [← hs, Nat.add_mul, Nat.pow_succ]
      have : 2 * A * 2 ^ k = A * (2 ^ k * 2) := by rw [Nat.mul_comm 2 A, Nat.mul_assoc, Nat.mul_comm 2]
      omega
    refine ⟨bitOf x k :: bs, p :: ps, ch', by simp [h1], by simp [h2], ?_, h4, h5, fun st => ?_, fun d q r h => ?_⟩
    · intro y hy
      rcases List.mem_cons.1 hy with rfl | hy
      · exact hp
      · exact h3 y hy
    · rw [wk, ep]
      show wk (tellE x) k (st.1 ++ [bitOf x k], st.2 ++ [p]) (2 * A + if bitOf x k then 1 else 0) (ch.set A (upd p (bitOf x k))) = _
      rw [h6, he]
      simp
    · simp only [List.cons_append, dec, List.cons.injEq] at h
      obtain ⟨d', e1, e2⟩ := h7 (dN d p.toNat) q r h.2
      refine ⟨d', ?_, e2⟩
      rw [wk, ep]
      have e3 : tellD d p k = (bitOf x k, dN d p.toNat) := by
        unfold tellD
        rw [h.1]
      rw [e3, e1, he]
end Go.Proofs.YtdifgiceallpiaaDoor.Pure
end
section
namespace Go.Proofs.YtdifgiceallpiaaDoor.Pure
open Go Go.RowKit Go.Proofs.YtdifgiceallpiaaDoorW.PrintWords Go.Proofs.YtdifgiceallpiaaDoorW.PrintMore Go.Proofs.YtdifgiceallpiaaDoor.P Go.Proofs.YtdifgiceallpiaaDoor.Com Go.Proofs.YtdifgiceallpiaaDoor.Rn Go.Proofs.YtdifgiceallpiaaDoor.Hd
theorem encT_tr (n : Nat) (t : List Int) : (∀ x ∈ t, 0 ≤ x ∧ x < (2 ^ n : Nat)) → ∀ (ch : List Int), ch.length = 2 ^ n → FineC ch →
    ∃ (bs : List Bool) (ps : List Int), bs.length = ps.length ∧ (∀ p ∈ ps, 31 ≤ p ∧ p ≤ 2017) ∧ (∀ st, encT n t st ch = some (st.1 ++ bs, st.2 ++ ps)) ∧ (∀ d, dec ps d = bs → decT n (2 ^ n) t.length d ch = t) := by
  induction t with
  | nil =>
    intro _ ch _ _
    exact ⟨[], [], rfl, by simp, fun st => by simp [encT], fun d _ => rfl⟩
  | cons x t ih =>
    intro ht ch hl hF
    obtain ⟨y, rfl⟩ : ∃ y : Nat, x = y := ⟨x.toNat, by have := ht x List.mem_cons_self; omega⟩
    have hy := ht _ List.mem_cons_self
    obtain ⟨bs, ps, ch', h1, h2, h3, h4, h5, h6, h7⟩ := wk_tr n y n (Nat.le_refl _) 1 ch (by simp) hl hF
    obtain ⟨bs2, ps2, g1, g2, g3, g4⟩ := ih (fun z hz => ht z (List.mem_cons_of_mem _ hz)) ch' h4 h5
    refine ⟨bs ++ bs2, ps ++ ps2, by simp [h1, h2, g1], ?_, fun st => ?_, fun d h => ?_⟩
    · intro p hp
      rcases List.mem_append.1 hp with hp | hp
      · exact h3 p hp
      · exact g2 p hp
    · rw [encT, if_neg (by omega), Int.toNat_natCast, h6, g3]
      simp
    · obtain ⟨d', e1, e2⟩ := h7 d ps2 bs2 h
      rw [List.length_cons, decT, e1]
      have hm : y % 2 ^ n = y := Nat.mod_eq_of_lt (by omega)
      rw [g4 d' e2, hm]
      congr 1
      omega
theorem fineC_new (n : Nat) : FineC (List.replicate (2 ^ n) 1024) := fun y hy => by rw [List.eq_of_mem_replicate hy]; omega
/-- Numbers of so many bits come back. -/
theorem bt_back (n : Nat) (t : List Int) (hn : 1 ≤ n ∧ n ≤ 9) (ht : ∀ x ∈ t, 0 ≤ x ∧ x < (2 ^ n : Nat)) (hl : t.length ≤ 1048576) :
    (btEnc t n).2 = 0 ∧ btDec (btEnc t n).1 t.length n = (t, 0) := by
  obtain ⟨bs, ps, h1, h2, h3, h4⟩ := encT_tr n t ht (List.replicate (2 ^ n) 1024) (by simp) (fineC_new n)
  have e : btEnc t n = encP bs ps := by
    unfold btEnc
    rw [if_neg (by omega), Int.toNat_natCast, h3]
    simp
  have hb := back bs ps ⟨#[]⟩ h1 (fun p hp => by have := h2 p hp; omega)
  have ea : (encP bs ps).1 ++ (⟨#[]⟩ : ByteArray) = (encP bs ps).1 := ByteArray.append_empty
  rw [ea] at hb
  rw [e]
  refine ⟨hb.2, ?_⟩
  unfold btDec
  rw [if_neg (by omega), Int.toNat_natCast, Int.toNat_natCast, h4 _ hb.1]
end Go.Proofs.YtdifgiceallpiaaDoor.Pure
end
section
namespace Go.Proofs.YtdifgiceallpiaaDoor.Bw
def sgn (t : List Nat) (a i : Nat) : Nat := if a < i then t.getD (i - 1) 0 else t.getD i 0
def bef (t : List Nat) (a i : Nat) : Nat := if i = a then 0 else 1 + (List.range (t.length + 1)).countP (fun k => decide (k ≠ a) && (decide (sgn t a k < sgn t a i) || (decide (sgn t a k = sgn t a i) && decide (k < i))))
def bkL (t : List Nat) (a : Nat) : Nat → Nat → List Nat → List Nat
 | 0, _, s => s
 | k + 1, i, s => if i = a then s else bkL t a k (bef t a i) (sgn t a i :: s)
theorem gD {l : List Nat} {i : Nat} (h : i < l.length) : l.getD i 0 = l[i] := by rw [List.getD_eq_getElem?_getD, List.getElem?_eq_getElem h]; rfl
theorem map_gD (l : List Nat) : (List.range l.length).map (fun k => l.getD k 0) = l := by
 refine List.ext_getElem (by simp) (fun i h1 h2 => ?_)
 simp only [List.getElem_map, List.getElem_range]
 exact gD h2
theorem cnt_gD (l : List Nat) (p : Nat → Bool) : (List.range l.length).countP (fun k => p (l.getD k 0)) = l.countP p := by
 have h := List.countP_map (p := p) (f := fun k => l.getD k 0) (l := List.range l.length)
 rw [map_gD] at h
 exact h.symm
theorem cnt_lt (n j : Nat) (h : j ≤ n) : (List.range n).countP (fun k => decide (k < j)) = j := by
 induction n with
 | zero => simp; omega
 | succ n ih =>
  rw [List.range_succ, List.countP_append]
  by_cases e : j = n + 1
  ·subst e
   have : (List.range n).countP (fun k => decide (k < n + 1)) = n := by
    rw [List.countP_eq_length.2 (fun a ha => decide_eq_true (by have := List.mem_range.1 ha; omega)), List.length_range]
   rw [this]; simp
  ·rw [ih (by omega)]; simp; omega
theorem cnt_pw {r : Nat → Nat → Prop} [DecidableRel r] {l : List Nat} (h : l.Pairwise r) (hi : ∀ x ∈ l, ¬ r x x) (ha : ∀ x ∈ l, ∀ y ∈ l, r x y → ¬ r y x) {j : Nat} (hj : j < l.length) : l.countP (fun x => decide (r x (l.getD j 0))) = j := by
 rw [← cnt_gD l (fun x => decide (r x (l.getD j 0)))]
 refine Eq.trans (List.countP_congr (fun k hk => ?_)) (cnt_lt l.length j (by omega))
 have hk := List.mem_range.1 hk
 have p := List.pairwise_iff_getElem.1 h
 rw [decide_eq_true_eq, decide_eq_true_eq, gD hk, gD hj]
 constructor
 ·intro hr
  rcases Nat.lt_trichotomy k j with h | h | h
  ·exact h
  ·subst h; exact absurd hr (hi _ (List.getElem_mem _))
  ·exact absurd (p j k hj hk h) (ha _ (List.getElem_mem _) _ (List.getElem_mem _) hr)
 ·intro hr; exact p k j hk hj hr
theorem cnt_sgn (t : List Nat) {a : Nat} (ha : a ≤ t.length) (p : Nat → Bool) : (List.range (t.length + 1)).countP (fun k => decide (k ≠ a) && p (sgn t a k)) = t.countP p := by
 have e : List.range (t.length + 1) = List.range a ++ a :: (List.range (t.length - a)).map (fun m => a + 1 + m) := by
  have := List.range_add (n := a) (m := t.length - a + 1)
  rw [show a + (t.length - a + 1) = t.length + 1 from by omega] at this
  rw [this, List.range_succ_eq_map, List.map_cons, List.map_map]
  simp only [Nat.add_zero, List.append_cancel_left_eq, List.cons.injEq, true_and]
  refine List.map_congr_left (fun m _ => ?_)
  simp only [Function.comp]; omega
 rw [e, List.countP_append, List.countP_cons, List.countP_map]
 have h1 : (List.range a).countP (fun k => decide (k ≠ a) && p (sgn t a k)) = (t.take a).countP p := by
  rw [← cnt_gD (t.take a) p, List.length_take, Nat.min_eq_left ha]
  refine List.countP_congr (fun k hk => ?_)
  have hk := List.mem_range.1 hk
  have : sgn t a k = (t.take a).getD k 0 := by
   unfold sgn
   rw [if_neg (by omega), List.getD_eq_getElem?_getD, List.getD_eq_getElem?_getD, List.getElem?_take_of_lt hk]
  rw [this, decide_eq_true (by omega : k ≠ a), Bool.true_and]
 have h2 : (List.range (t.length - a)).countP ((fun k => decide (k ≠ a) && p (sgn t a k)) ∘ fun m => a + 1 + m) = (t.drop a).countP p := by
  rw [← cnt_gD (t.drop a) p, List.length_drop]
  refine List.countP_congr (fun k hk => ?_)
  have : sgn t a (a + 1 + k) = (t.drop a).getD k 0 := by
   unfold sgn
   rw [if_pos (by omega), List.getD_eq_getElem?_getD, List.getD_eq_getElem?_getD, List.getElem?_drop, show a + 1 + k - 1 = a + k from by omega]
  simp only [Function.comp]
  rw [this, decide_eq_true (by omega : a + 1 + k ≠ a), Bool.true_and]
 rw [h1, h2]
 simp only [ne_eq, not_true, decide_false, Bool.false_and]
 have := congrArg (List.countP p) (List.take_append_drop a t)
 rw [List.countP_append] at this
 simpa using this
theorem cnt_split (n : Nat) (p q : Nat → Bool) (h : ∀ k, k < n → ¬ (p k = true ∧ q k = true)) : (List.range n).countP (fun k => p k || q k) = (List.range n).countP p + (List.range n).countP q := by
 induction n with
 | zero => rfl
 | succ n ih =>
  rw [List.range_succ, List.countP_append, List.countP_append, List.countP_append, ih (fun k hk => h k (by omega))]
  have := h n (by omega)
  simp only [List.countP_singleton]
  cases hp : p n <;> cases hq : q n <;> simp_all <;> omega
theorem cnt_cut (n i : Nat) (hi : i ≤ n) (p : Nat → Bool) : (List.range n).countP (fun k => p k && decide (k < i)) = (List.range i).countP p := by
 have e := List.range_add (n := i) (m := n - i)
 rw [show i + (n - i) = n from by omega] at e
 rw [e, List.countP_append, List.countP_map]
 have h1 : (List.range i).countP (fun k => p k && decide (k < i)) = (List.range i).countP p := List.countP_congr (fun k hk => by
  rw [decide_eq_true (List.mem_range.1 hk), Bool.and_true])
 have h2 : (List.range (n - i)).countP ((fun k => p k && decide (k < i)) ∘ fun x => i + x) = 0 := by
  refine List.countP_eq_zero.2 (fun k _ => ?_)
  simp only [Function.comp]
  rw [decide_eq_false (by omega), Bool.and_false]; simp
 rw [h1, h2]
 rfl
theorem bef_eq (t : List Nat) {a i : Nat} (ha : a ≤ t.length) (hi : i ≤ t.length) (hn : i ≠ a) : bef t a i = 1 + t.countP (fun y => decide (y < sgn t a i)) + (List.range i).countP (fun k => decide (k ≠ a) && decide (sgn t a k = sgn t a i)) := by
 unfold bef
 rw [if_neg hn, ← cnt_sgn t ha (fun y => decide (y < sgn t a i)), ← cnt_cut (t.length + 1) i (by omega), Nat.add_assoc, ← cnt_split]
 ·congr 1
  refine List.countP_congr (fun k _ => ?_)
  generalize sgn t a k = u
  generalize sgn t a i = v
  simp only [Bool.and_eq_true, Bool.or_eq_true, decide_eq_true_eq]
  constructor
  ·rintro ⟨h1, h2 | ⟨h2, h3⟩⟩
   ·exact .inl ⟨h1, h2⟩
   ·exact .inr ⟨⟨h1, h2⟩, h3⟩
  ·rintro (⟨h1, h2⟩ | ⟨⟨h1, h2⟩, h3⟩)
   ·exact ⟨h1, .inl h2⟩
   ·exact ⟨h1, .inr ⟨h2, h3⟩⟩
 ·intro k _
  simp only [Bool.and_eq_true, decide_eq_true_eq]
  rintro ⟨⟨_, h⟩, ⟨_, e⟩, _⟩
  omega
theorem bef_le (t : List Nat) {a i : Nat} (ha : a ≤ t.length) (hi : i ≤ t.length) : bef t a i ≤ t.length := by
 by_cases hn : i = a
 ·unfold bef; rw [if_pos hn]; omega
 ·unfold bef
  rw [if_neg hn]
  have h1 : (List.range (t.length + 1)).countP (fun k => decide (k ≠ a) && (decide (sgn t a k < sgn t a i) || (decide (sgn t a k = sgn t a i) && decide (k < i)))) ≤ (List.range (t.length + 1)).countP (fun k => decide (k ≠ a) && decide (k ≠ i)) := by
   refine List.countP_mono_left (fun k _ => ?_)
   simp only [Bool.and_eq_true, Bool.or_eq_true, decide_eq_true_eq]
   rintro ⟨h1, h2⟩
   refine ⟨h1, fun e => ?_⟩
   subst e
   rcases h2 with h | ⟨_, h⟩ <;> omega
  have h2 := cnt_split (t.length + 1) (fun k => decide (k ≠ a) && decide (k ≠ i)) (fun k => decide (k = i)) (fun k _ => by simp)
  have h3 : (List.range (t.length + 1)).countP (fun k => (decide (k ≠ a) && decide (k ≠ i)) || decide (k = i)) = (List.range (t.length + 1)).countP (fun k => decide (k ≠ a) && (fun _ => true) (sgn t a k)) := List.countP_congr (fun k _ => by
   simp only [Bool.and_eq_true, Bool.or_eq_true, decide_eq_true_eq, and_true]
   constructor
   ·rintro (h | h)
    ·exact h.1
    ·omega
   ·intro h
    by_cases e : k = i
    ·exact .inr e
    ·exact .inl ⟨h, e⟩)
  rw [cnt_sgn t ha (fun _ => true)] at h3
  have h4 : (List.range (t.length + 1)).countP (fun k => decide (k = i)) = 1 := by
   have h5 : (List.range (t.length + 1)).count i = 1 := by
    rw [List.nodup_range.count, if_pos (List.mem_range.2 (by omega))]
   rw [List.count_eq_countP] at h5
   exact Eq.trans (List.countP_congr (fun k _ => by simp)) h5
  have h6 : t.countP (fun _ => true) ≤ t.length := List.countP_le_length
  omega
structure RowsOk (x : List Nat) (R : List Nat) : Prop where
 len : R.length = x.length + 1
 nd : R.Nodup
 lt : ∀ y ∈ R, y < x.length + 1
 all : ∀ y, y < x.length + 1 → y ∈ R
 o : R.Pairwise (fun p q => x.drop p < x.drop q)
theorem RowsOk.perm {x R : List Nat} (h : RowsOk x R) : R.Perm (List.range (x.length + 1)) :=
 (List.perm_ext_iff_of_nodup h.nd List.nodup_range).2 (fun y => ⟨fun m => List.mem_range.2 (h.lt y m), fun m => h.all y (List.mem_range.1 m)⟩)
theorem RowsOk.rank {x R : List Nat} (h : RowsOk x R) {j : Nat} (hj : j < R.length) : R.countP (fun p => decide (x.drop p < x.drop (R.getD j 0))) = j :=
 cnt_pw (r := fun p q => x.drop p < x.drop q) h.o (fun _ _ => List.lt_irrefl _) (fun _ _ _ _ h1 h2 => List.lt_irrefl _ (List.lt_trans h1 h2)) hj
theorem RowsOk.lt_iff {x R : List Nat} (h : RowsOk x R) {j k : Nat} (hj : j < R.length) (hk : k < R.length) : x.drop (R.getD j 0) < x.drop (R.getD k 0) ↔ j < k := by
 have p := List.pairwise_iff_getElem.1 h.o
 rw [gD hj, gD hk]
 constructor
 ·intro hr
  rcases Nat.lt_trichotomy j k with h | h | h
  ·exact h
  ·subst h; exact absurd hr (List.lt_irrefl _)
  ·exact absurd (List.lt_trans hr (p k j hk hj h)) (List.lt_irrefl _)
 ·exact p j k hj hk
def tnT (x R : List Nat) : List Nat := (R.filter (fun p => p ≠ 0)).map (fun p => x.getD (p - 1) 0)
theorem drop_cc {x : List Nat} {p : Nat} (hp : p < x.length) : x.drop p = x.getD p 0 :: x.drop (p + 1) := by
 rw [List.drop_eq_getElem_cons hp, gD hp]
section
variable {x R : List Nat} (h : RowsOk x R) {a : Nat} (ha : a < R.length) (h0 : R.getD a 0 = 0)
include h ha h0
theorem at_iff {k : Nat} (hk : k < R.length) : R.getD k 0 = 0 ↔ k = a := by
 constructor
 ·intro e
  have := (h.lt_iff hk ha)
  have t2 := (h.lt_iff ha hk)
  rw [e, h0] at this t2
  have n1 : ¬ k < a := fun hh => List.lt_irrefl _ (this.2 hh)
  have n2 : ¬ a < k := fun hh => List.lt_irrefl _ (t2.2 hh)
  omega
 ·intro e; rw [e, h0]
theorem R_split : R = R.take a ++ 0 :: R.drop (a + 1) := by
 have e1 := List.drop_eq_getElem_cons ha
 rw [gD ha] at h0
 rw [h0] at e1
 rw [← e1, List.take_append_drop]
theorem filt : R.filter (fun p => p ≠ 0) = R.take a ++ R.drop (a + 1) := by
 have e := R_split h ha h0
 have hA : (R.take a).filter (fun p => p ≠ 0) = R.take a := List.filter_eq_self.2 (fun y hy => by
  obtain ⟨m, hm, e⟩ := List.mem_iff_getElem.1 hy
  rw [List.length_take] at hm
  rw [List.getElem_take] at e
  refine decide_eq_true (fun z => ?_)
  have := (at_iff h ha h0 (k := m) (by omega)).1 (by rw [gD (by omega), e, z])
  omega)
 have hB : (R.drop (a + 1)).filter (fun p => p ≠ 0) = R.drop (a + 1) := List.filter_eq_self.2 (fun y hy => by
  obtain ⟨m, hm, e⟩ := List.mem_iff_getElem.1 hy
  rw [List.length_drop] at hm
  rw [List.getElem_drop] at e
  refine decide_eq_true (fun z => ?_)
  have := (at_iff h ha h0 (k := a + 1 + m) (by omega)).1 (by rw [gD (by omega), e, z])
  omega)
 conv => lhs; rw [e]
 rw [List.filter_append, List.filter_cons_of_neg (by simp), hA, hB]
theorem tn_len : (tnT x R).length = x.length := by
 unfold tnT
 rw [filt h ha h0, List.length_map, List.length_append, List.length_take, List.length_drop]
 have := h.len
 omega
theorem sgn_tn {k : Nat} (hk : k < R.length) (hn : k ≠ a) : sgn (tnT x R) a k = x.getD (R.getD k 0 - 1) 0 := by
 unfold sgn tnT
 rw [filt h ha h0]
 have hl := h.len
 by_cases hlt : a < k
 ·rw [if_pos hlt, gD (by rw [List.length_map, List.length_append, List.length_take, List.length_drop]; omega), List.getElem_map, List.getElem_append_right (by rw [List.length_take]; omega), List.getElem_drop, gD hk]
  congr 2
  simp only [List.length_take]
  congr 1
  omega
 ·rw [if_neg hlt, gD (by rw [List.length_map, List.length_append, List.length_take, List.length_drop]; omega), List.getElem_map, List.getElem_append_left (by rw [List.length_take]; omega), List.getElem_take, gD hk]
theorem tn_bef {i : Nat} (hi : i < R.length) (hn : i ≠ a) : bef (tnT x R) a i < R.length ∧ R.getD (bef (tnT x R) a i) 0 = R.getD i 0 - 1 := by
 have hl := h.len
 have hp0 : R.getD i 0 ≠ 0 := fun e => hn ((at_iff h ha h0 hi).1 e)
 have hpm : R.getD i 0 < x.length + 1 := h.lt _ (by rw [gD hi]; exact List.getElem_mem _)
 obtain ⟨j, hj, ej⟩ := List.mem_iff_getElem.1 (h.all (R.getD i 0 - 1) (by omega))
 have ej : R.getD j 0 = R.getD i 0 - 1 := by rw [gD hj, ej]
 have hr := h.rank hj
 rw [h.perm.countP_eq, List.range_succ, List.countP_append, ej] at hr
 have hlast : [x.length].countP (fun p => decide (x.drop p < x.drop (R.getD i 0 - 1))) = 1 := by
  rw [List.countP_singleton, List.drop_eq_nil_of_le (Nat.le_refl _), drop_cc (by omega)]
  rw [decide_eq_true (List.nil_lt_cons _ _)]; rfl
 rw [hlast] at hr
 have key : (List.range ((tnT x R).length + 1)).countP (fun k => decide (k ≠ a) && (decide (sgn (tnT x R) a k < sgn (tnT x R) a i) || (decide (sgn (tnT x R) a k = sgn (tnT x R) a i) && decide (k < i)))) = (List.range x.length).countP (fun p => decide (x.drop p < x.drop (R.getD i 0 - 1))) := by
  rw [tn_len h ha h0, ← hl]
  have e1 : (List.range R.length).countP (fun k => decide (k ≠ a) && (decide (sgn (tnT x R) a k < sgn (tnT x R) a i) || (decide (sgn (tnT x R) a k = sgn (tnT x R) a i) && decide (k < i)))) = (List.range R.length).countP (fun k => (fun p => decide (p ≠ 0) && decide (x.drop (p - 1) < x.drop (R.getD i 0 - 1))) (R.getD k 0)) := by
   refine List.countP_congr (fun k hk => ?_)
   have hk := List.mem_range.1 hk
   simp only [Bool.and_eq_true, Bool.or_eq_true, decide_eq_true_eq, ne_eq, at_iff h ha h0 hk]
   refine and_congr_right (fun hka => ?_)
   have hkm : R.getD k 0 < x.length + 1 := h.lt _ (by rw [gD hk]; exact List.getElem_mem _)
   have hk0 : R.getD k 0 ≠ 0 := fun e => hka ((at_iff h ha h0 hk).1 e)
   rw [sgn_tn h ha h0 hk hka, sgn_tn h ha h0 hi hn, drop_cc (p := R.getD k 0 - 1) (by omega), drop_cc (p := R.getD i 0 - 1) (by omega), List.cons_lt_cons_iff, show R.getD k 0 - 1 + 1 = R.getD k 0 from by omega, show R.getD i 0 - 1 + 1 = R.getD i 0 from by omega, h.lt_iff hk hi]
  rw [e1, cnt_gD R (fun p => decide (p ≠ 0) && decide (x.drop (p - 1) < x.drop (R.getD i 0 - 1))), h.perm.countP_eq, List.range_succ_eq_map, List.countP_cons_of_neg (by simp), List.countP_map]
  refine List.countP_congr (fun k _ => ?_)
  simp [Function.comp]
 have hb : bef (tnT x R) a i = j := by
  unfold bef
  rw [if_neg hn, key]; omega
 rw [hb]
 exact ⟨hj, ej⟩
theorem tn_bk (m : Nat) : ∀ i, i < R.length → R.getD i 0 = m → bkL (tnT x R) a m i (x.drop m) = x := by
 induction m with
 | zero => intro i _ _; rfl
 | succ m ih =>
  intro i hi e
  have hn : i ≠ a := fun hh => by rw [hh, h0] at e; omega
  have hb := tn_bef h ha h0 hi hn
  unfold bkL
  rw [if_neg hn, sgn_tn h ha h0 hi hn, e, Nat.add_sub_cancel]
  have hm : m < x.length := by have := h.lt _ (show R.getD i 0 ∈ R by rw [gD hi]; exact List.getElem_mem _); omega
  rw [← drop_cc hm]
  exact ih _ hb.1 (by rw [hb.2, e]; omega)
end
theorem rows_of {x l : List Nat} (hlen : l.length = x.length) (hnd : l.Nodup) (hlt : ∀ y ∈ l, y < x.length) (hall : ∀ y, y < x.length → y ∈ l) (ho : l.Pairwise (fun p q => x.drop p < x.drop q)) : RowsOk x (x.length :: l) := by
 refine ⟨by simp [hlen], List.nodup_cons.2 ⟨fun m => absurd (hlt _ m) (by omega), hnd⟩, fun y hy => ?_, fun y hy => ?_, List.pairwise_cons.2 ⟨fun q hq => ?_, ho⟩⟩
 ·rcases List.mem_cons.1 hy with e | e
  ·omega
  ·have := hlt y e; omega
 ·by_cases e : y = x.length
  ·rw [e]; exact List.mem_cons_self
  ·exact List.mem_cons_of_mem _ (hall y (by omega))
 ·have := hlt q hq
  rw [List.drop_eq_nil_of_le (Nat.le_refl _), drop_cc this]
  exact List.nil_lt_cons _ _
end Go.Proofs.YtdifgiceallpiaaDoor.Bw
end
