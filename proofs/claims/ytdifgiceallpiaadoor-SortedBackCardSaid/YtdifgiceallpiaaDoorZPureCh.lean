/- Chances along a number's bits, plainly: what is told is decoded as it was. -/
import Derived.Test.YtdifgiceallpiaaDoorZHBtr
import Derived.Test.YtdifgiceallpiaaDoorZPureRgBack
set_option linter.unusedVariables false
set_option linter.unusedSimpArgs false
set_option linter.unusedSectionVars false
namespace Go.Proofs.YtdifgiceallpiaaDoor.Pure
open Go Go.RowKit Go.Proofs.YtdifgiceallpiaaDoorW.PrintWords Go.Proofs.YtdifgiceallpiaaDoorW.PrintMore Go.Proofs.YtdifgiceallpiaaDoor.P Go.Proofs.YtdifgiceallpiaaDoor.Com Go.Proofs.YtdifgiceallpiaaDoor.Rn Go.Proofs.YtdifgiceallpiaaDoor.Hd
theorem bit_step (x k : Nat) : (if bitOf x k then 1 else 0) * 2 ^ k + x % 2 ^ k = x % 2 ^ (k + 1) := by
  unfold bitOf
  rw [Nat.pow_succ, Nat.mod_mul]
  rcases Nat.mod_two_eq_zero_or_one (x / 2 ^ k) with h | h <;> rw [h] <;> simp <;> omega
theorem wk_tr (n x : Nat) : ∀ k, k ≤ n → ∀ (A : Nat) (ch : List Int), A < 2 * 2 ^ (n - k) → ch.length = 2 ^ n → FineC ch →
    ∃ (bs : List Bool) (ps : List Int) (ch' : List Int), bs.length = k ∧ ps.length = k ∧ (∀ p ∈ ps, 31 ≤ p ∧ p ≤ 2017) ∧ ch'.length = 2 ^ n ∧ FineC ch' ∧
      (∀ st, wk (tellE x) k st A ch = (A * 2 ^ k + x % 2 ^ k, (st.1 ++ bs, st.2 ++ ps), ch')) ∧
      (∀ d q r, dec (ps ++ q) d = bs ++ r → ∃ d', wk tellD k d A ch = (A * 2 ^ k + x % 2 ^ k, d', ch') ∧ dec q d' = r) := by
  intro k
  induction k with
  | zero =>
    intro _ A ch hA hl hF
    refine ⟨[], [], ch, rfl, rfl, by simp, hl, hF, fun st => ?_, fun d q r h => ⟨d, ?_, h⟩⟩
    · simp [wk, Nat.mod_one]
    · simp [wk, Nat.mod_one]
  | succ k ih =>
    intro hk A ch hA hl hF
    have hA2 : A < ch.length := by
      rw [hl]
      refine Nat.lt_of_lt_of_le hA ?_
      rw [← Nat.pow_succ']
      exact Nat.pow_le_pow_right (by omega) (by omega)
    have hp := hF.at_ hA2
    obtain ⟨p, ep⟩ : ∃ p, ch.getD A 0 = p := ⟨_, rfl⟩
    rw [ep] at hp
    have hnk : 2 ^ (n - k) = 2 * 2 ^ (n - (k + 1)) := by
      rw [← Nat.pow_succ']; congr 1; omega
    have hb : (if bitOf x k then 1 else 0) ≤ 1 := by split <;> omega
    obtain ⟨bs, ps, ch', h1, h2, h3, h4, h5, h6, h7⟩ := ih (by omega) (2 * A + if bitOf x k then 1 else 0) (ch.set A (upd p (bitOf x k))) (by omega) (by rw [List.length_set]; exact hl) (hF.set A (upd_in hp.1 hp.2))
    have hs := bit_step x k
    have he : (2 * A + if bitOf x k then 1 else 0) * 2 ^ k + x % 2 ^ k = A * 2 ^ (k + 1) + x % 2 ^ (k + 1) := by
      rw [← hs, Nat.add_mul, Nat.pow_succ]
      have : 2 * A * 2 ^ k = A * (2 ^ k * 2) := by rw [Nat.mul_comm 2 A, Nat.mul_assoc, Nat.mul_comm 2]
      omega
    refine ⟨bitOf x k :: bs, p :: ps, ch', by simp [h1], by simp [h2], ?_, h4, h5, fun st => ?_, fun d q r h => ?_⟩
    · intro y hy
      rcases List.mem_cons.1 hy with rfl | hy
      · exact hp
      · exact h3 y hy
    · rw [wk, ep]
      show wk (tellE x) k (st.1 ++ [bitOf x k], st.2 ++ [p]) (2 * A + if bitOf x k then 1 else 0) (ch.set A (upd p (bitOf x k))) = _
      rw [h6, he]
      simp
    · simp only [List.cons_append, dec, List.cons.injEq] at h
      obtain ⟨d', e1, e2⟩ := h7 (dN d p.toNat) q r h.2
      refine ⟨d', ?_, e2⟩
      rw [wk, ep]
      have e3 : tellD d p k = (bitOf x k, dN d p.toNat) := by
        unfold tellD
        rw [h.1]
      rw [e3, e1, he]
end Go.Proofs.YtdifgiceallpiaaDoor.Pure
