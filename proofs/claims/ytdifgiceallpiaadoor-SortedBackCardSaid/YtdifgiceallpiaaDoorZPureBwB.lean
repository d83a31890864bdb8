/- bwt: the way back, plainly; what is turned comes back. -/
import Derived.Test.YtdifgiceallpiaaDoorZPureBt
import Derived.Test.YtdifgiceallpiaaDoorZHBw
set_option linter.unusedVariables false
set_option linter.unusedSimpArgs false
set_option linter.unusedSectionVars false
namespace Go.Proofs.YtdifgiceallpiaaDoor.Pure
open Go Go.RowKit Go.Proofs.YtdifgiceallpiaaDoor.P Go.Proofs.YtdifgiceallpiaaDoorW.PrintWords Go.Proofs.YtdifgiceallpiaaDoorW.PrintLast Go.Proofs.YtdifgiceallpiaaDoor.Com Go.Proofs.YtdifgiceallpiaaDoor.Hd Go.Proofs.YtdifgiceallpiaaDoor.Hw Go.Proofs.YtdifgiceallpiaaDoor.Cn Go.Proofs.YtdifgiceallpiaaDoor.Sais Go.Proofs.YtdifgiceallpiaaDoor.Bw
theorem str_size {l : List Nat} (h : ∀ x ∈ l, x < 256) : (strOfNums (iN l)).size = l.length := by rw [← nb_length, show nb (strOfNums (iN l)) = l from nb_str l h]
theorem bkL_lt {t : List Nat} {a : Nat} (ht : ∀ x ∈ t, x < 256) (k : Nat) : ∀ (i : Nat) (s : List Nat), (∀ x ∈ s, x < 256) → ∀ x ∈ bkL t a k i s, x < 256 := by
  induction k with
  | zero => intro i s h; exact h
  | succ k ih =>
    intro i s h
    unfold bkL
    split
    · exact h
    · exact ih _ _ (fun y hy => by rcases List.mem_cons.1 hy with e | e; (rw [e]; exact sgn_lt ht a i); exact h y e)
/-- What the last test gives. -/
def fin (t : ByteArray) (a : Int) (y : ByteArray) : ByteArray × Int := if tS y = t ∧ (tA y : Int) = a then (y, 0) else (⟨#[]⟩, 4)
theorem bkO_fin {t : ByteArray} {a : Nat} (ha : a ≤ t.size) (h0 : a = 0 → t.size = 0) : bkO t (a : Int) = fin t (a : Int) (strOfNums (iN (bkL (nb t) a t.size 0 []))) := by
  unfold bkO
  rw [if_neg (by rintro (h | h | ⟨h1, h2⟩); (omega); (omega); exact h2 (h0 (by omega))), Int.toNat_natCast]
  cases e : bkR (nb t) a t.size 0 [] with
  | none =>
    have hl := bkR_none _ _ _ e
    have hlt := bkL_lt (nb_lt t) (a := a) t.size 0 [] (fun _ h => nomatch h)
    show _ = fin _ _ _
    unfold fin
    rw [if_neg]
    rintro ⟨h, _⟩
    have := congrArg ByteArray.size h
    rw [tS_size, str_size hlt] at this
    rw [List.length_nil] at hl
    omega
  | some l =>
    have hl := bkR_some _ _ _ _ e
    rw [hl.2]
    rfl
theorem str_nb (s : ByteArray) : strOfNums (iN (nb s)) = s := nb_inj (nb_str _ (nb_lt s))
/-- What is turned comes back. -/
theorem bkO_tn (s : ByteArray) : bkO (tS s) (tA s : Int) = (s, 0) := by
  have hR := rws_ok s
  have hl := tA_lt s
  have h0 := tA_at s
  rw [bkO_fin (by rw [tS_size]; exact tA_le s) (fun e => by
    rw [tS_size]
    rcases Nat.eq_zero_or_pos s.size with z | z
    · exact z
    · have := (tn_cons z).2; omega), nb_tS, tS_size]
  have hb := tn_bk hR hl h0 s.size 0 (by rw [rws_len]; omega) rfl
  rw [List.drop_eq_nil_of_le (by rw [nb_length]; exact Nat.le_refl _)] at hb
  unfold tL
  rw [hb, str_nb]
  unfold fin
  rw [if_pos ⟨rfl, rfl⟩]
end Go.Proofs.YtdifgiceallpiaaDoor.Pure
