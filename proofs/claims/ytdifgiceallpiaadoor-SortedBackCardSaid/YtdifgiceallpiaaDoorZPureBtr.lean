/- bittree, plainly: what is told is decoded as it was. -/
import Derived.Test.YtdifgiceallpiaaDoorZHBtr
import Derived.Test.YtdifgiceallpiaaDoorZPureRgBack
import Derived.Test.YtdifgiceallpiaaDoorZPureCh
set_option linter.unusedVariables false
set_option linter.unusedSimpArgs false
set_option linter.unusedSectionVars false
namespace Go.Proofs.YtdifgiceallpiaaDoor.Pure
open Go Go.RowKit Go.Proofs.YtdifgiceallpiaaDoorW.PrintWords Go.Proofs.YtdifgiceallpiaaDoorW.PrintMore Go.Proofs.YtdifgiceallpiaaDoor.P Go.Proofs.YtdifgiceallpiaaDoor.Com Go.Proofs.YtdifgiceallpiaaDoor.Rn Go.Proofs.YtdifgiceallpiaaDoor.Hd
theorem encT_tr (n : Nat) (t : List Int) : (∀ x ∈ t, 0 ≤ x ∧ x < (2 ^ n : Nat)) → ∀ (ch : List Int), ch.length = 2 ^ n → FineC ch →
    ∃ (bs : List Bool) (ps : List Int), bs.length = ps.length ∧ (∀ p ∈ ps, 31 ≤ p ∧ p ≤ 2017) ∧ (∀ st, encT n t st ch = some (st.1 ++ bs, st.2 ++ ps)) ∧ (∀ d, dec ps d = bs → decT n (2 ^ n) t.length d ch = t) := by
  induction t with
  | nil =>
    intro _ ch _ _
    exact ⟨[], [], rfl, by simp, fun st => by simp [encT], fun d _ => rfl⟩
  | cons x t ih =>
    intro ht ch hl hF
    obtain ⟨y, rfl⟩ : ∃ y : Nat, x = y := ⟨x.toNat, by have := ht x List.mem_cons_self; omega⟩
    have hy := ht _ List.mem_cons_self
    obtain ⟨bs, ps, ch', h1, h2, h3, h4, h5, h6, h7⟩ := wk_tr n y n (Nat.le_refl _) 1 ch (by simp) hl hF
    obtain ⟨bs2, ps2, g1, g2, g3, g4⟩ := ih (fun z hz => ht z (List.mem_cons_of_mem _ hz)) ch' h4 h5
    refine ⟨bs ++ bs2, ps ++ ps2, by simp [h1, h2, g1], ?_, fun st => ?_, fun d h => ?_⟩
    · intro p hp
      rcases List.mem_append.1 hp with hp | hp
      · exact h3 p hp
      · exact g2 p hp
    · rw [encT, if_neg (by omega), Int.toNat_natCast, h6, g3]
      simp
    · obtain ⟨d', e1, e2⟩ := h7 d ps2 bs2 h
      rw [List.length_cons, decT, e1]
      have hm : y % 2 ^ n = y := Nat.mod_eq_of_lt (by omega)
      rw [g4 d' e2, hm]
      congr 1
      omega
theorem fineC_new (n : Nat) : FineC (List.replicate (2 ^ n) 1024) := fun y hy => by rw [List.eq_of_mem_replicate hy]; omega
/-- Numbers of so many bits come back. -/
theorem bt_back (n : Nat) (t : List Int) (hn : 1 ≤ n ∧ n ≤ 9) (ht : ∀ x ∈ t, 0 ≤ x ∧ x < (2 ^ n : Nat)) (hl : t.length ≤ 1048576) :
    (btEnc t n).2 = 0 ∧ btDec (btEnc t n).1 t.length n = (t, 0) := by
  obtain ⟨bs, ps, h1, h2, h3, h4⟩ := encT_tr n t ht (List.replicate (2 ^ n) 1024) (by simp) (fineC_new n)
  have e : btEnc t n = encP bs ps := by
    unfold btEnc
    rw [if_neg (by omega), Int.toNat_natCast, h3]
    simp
  have hb := back bs ps ⟨#[]⟩ h1 (fun p hp => by have := h2 p hp; omega)
  have ea : (encP bs ps).1 ++ (⟨#[]⟩ : ByteArray) = (encP bs ps).1 := ByteArray.append_empty
  rw [ea] at hb
  rw [e]
  refine ⟨hb.2, ?_⟩
  unfold btDec
  rw [if_neg (by omega), Int.toNat_natCast, Int.toNat_natCast, h4 _ hb.1]
end Go.Proofs.YtdifgiceallpiaaDoor.Pure
