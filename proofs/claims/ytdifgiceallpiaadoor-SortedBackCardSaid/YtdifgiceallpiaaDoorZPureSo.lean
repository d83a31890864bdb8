/- sorted: what Put gives, and what is read of it, plainly. -/
import Derived.Test.YtdifgiceallpiaaDoorZPureZerosS
import Derived.Test.YtdifgiceallpiaaDoorZPureVarintS
import Derived.Test.YtdifgiceallpiaaDoorZPureMtfS
import Derived.Test.YtdifgiceallpiaaDoorZPureBtr
import Derived.Test.YtdifgiceallpiaaDoorZPureBwB
set_option linter.unusedVariables false
set_option linter.unusedSimpArgs false
set_option linter.unusedSectionVars false
namespace Go.Proofs.YtdifgiceallpiaaDoor.Pure
open Go Go.RowKit Go.Proofs.YtdifgiceallpiaaDoorW.PrintWords Go.Proofs.YtdifgiceallpiaaDoorW.PrintMore Go.Proofs.YtdifgiceallpiaaDoor.P Go.Proofs.YtdifgiceallpiaaDoor.Com Go.Proofs.YtdifgiceallpiaaDoor.Rn Go.Proofs.YtdifgiceallpiaaDoor.Hd
def mvT (s : ByteArray) : List Int := mtf_Move.go (upto 256) (bytesOf (tS s))
def sgT (s : ByteArray) : List Int := (pack (mvT s)).1
def enB (s : ByteArray) : ByteArray := (btEnc (sgT s) 9).1
def putT (s : ByteArray) : ByteArray := ((bs s.size ++ bs (tA s)) ++ bs (sgT s).length) ++ enB s
theorem mv_length (s : ByteArray) : (mvT s).length = s.size := by
  unfold mvT
  rw [go_length, ← tS_size s]
  unfold bytesOf
  simp
theorem bk_mv (s : ByteArray) : bk (upto 256) (mvT s) = some (bytesOf (tS s)) := bk_go _ _ Row.start (bytes_byte _)
theorem bk_in : ∀ (l : List Int) (r t : List Int), bk r l = some t → ∀ x ∈ l, 0 ≤ x ∧ x < 256
  | [], _, _, _, _, h => by cases h
  | i :: l, r, t, h, x, hx => by
    unfold bk at h
    by_cases hi : 0 ≤ i ∧ i < 256
    · rw [if_pos hi] at h
      rcases List.mem_cons.1 hx with e | hx
      · rw [e]; exact hi
      · obtain ⟨q, hq, _⟩ := Option.map_eq_some_iff.1 h
        exact bk_in l _ q hq x hx
    · rw [if_neg hi] at h; cases h
theorem mv_in (s : ByteArray) : ∀ x ∈ mvT s, 0 ≤ x ∧ x < 256 := bk_in _ _ _ (bk_mv s)
theorem mv_ok (s : ByteArray) : (mvT s).all okN = true := List.all_eq_true.2 fun x hx => by
  have := mv_in s x hx
  unfold okN
  rw [decide_eq_true_eq]; omega
theorem rn_in (n : Nat) : ∀ x ∈ rn n, 0 ≤ x ∧ x ≤ 256 := by
  induction n using Nat.strongRecOn with
  | _ n ih =>
    by_cases h : n = 0
    · subst h; rw [rn_zero]; simp
    · rw [rn_pos n (by omega)]
      intro x hx
      rcases List.mem_cons.1 hx with e | hx
      · rw [e]; omega
      · exact ih ((n - 1) / 2) (by omega) x hx
theorem sg_in (l : List Int) : ∀ n, (∀ x ∈ l, 0 ≤ x ∧ x < 256) → ∀ x ∈ sg n l, 0 ≤ x ∧ x ≤ 256 := by
  induction l with
  | nil => intro n _; rw [sg]; exact rn_in n
  | cons a t ih =>
    intro n h x hx
    have ht : ∀ x ∈ t, 0 ≤ x ∧ x < 256 := fun y hy => h y (List.mem_cons_of_mem _ hy)
    have ha := h a List.mem_cons_self
    rw [sg] at hx
    by_cases h0 : a = 0
    · rw [if_pos h0] at hx; exact ih _ ht x hx
    · rw [if_neg h0] at hx
      rcases List.mem_append.1 hx with hx | hx
      · exact rn_in n x hx
      · rcases List.mem_cons.1 hx with e | hx
        · rw [e]; omega
        · exact ih 0 ht x hx
theorem sgT_eq (s : ByteArray) : pack (mvT s) = (sgT s, 0) := by
  unfold sgT pack
  rw [if_pos (mv_ok s)]
theorem sgT_in (s : ByteArray) : ∀ x ∈ sgT s, 0 ≤ x ∧ x < (2 ^ 9 : Nat) := by
  have e : sgT s = sg 0 (mvT s) := by unfold sgT pack; rw [if_pos (mv_ok s)]
  rw [e]
  intro x hx
  have := sg_in _ 0 (mv_in s) x hx
  omega
theorem sgT_length (s : ByteArray) : (sgT s).length ≤ s.size := by
  rw [← mv_length s]
  exact pack_length _
theorem sgT_un {s : ByteArray} (hs : s.size ≤ 65536) : unpack (sgT s) = (mvT s, 0) := (pack_unpack _ (mv_ok s) (by rw [mv_length]; omega)).2
theorem mv_told (s : ByteArray) : told (bk (upto 256) (mvT s)) = (tS s, 0) := by
  rw [bk_mv]
  show (strOfNums (bytesOf (tS s)), (0 : Int)) = _
  rw [str_bytes]
theorem enB_eq {s : ByteArray} (hs : s.size ≤ 65536) : btEnc (sgT s) 9 = (enB s, 0) := by
  have := (bt_back 9 (sgT s) (by decide) (sgT_in s) (by have := sgT_length s; omega)).1
  exact Prod.ext rfl this
theorem bt_backT (n : Nat) (t : List Int) (T : ByteArray) (hn : 1 ≤ n ∧ n ≤ 9) (ht : ∀ x ∈ t, 0 ≤ x ∧ x < (2 ^ n : Nat)) (hl : t.length ≤ 1048576) : btDec ((btEnc t n).1 ++ T) t.length n = (t, 0) := by
  obtain ⟨bs, ps, h1, h2, h3, h4⟩ := encT_tr n t ht (List.replicate (2 ^ n) 1024) (by simp) (fineC_new n)
  have e : btEnc t n = encP bs ps := by
    unfold btEnc
    rw [if_neg (by omega), Int.toNat_natCast, h3]
    simp
  have hb := back bs ps T h1 (fun p hp => by have := h2 p hp; omega)
  rw [e]
  unfold btDec
  rw [if_neg (by omega), Int.toNat_natCast, Int.toNat_natCast, h4 _ hb.1]
theorem enB_dec {s : ByteArray} (hs : s.size ≤ 65536) (T : ByteArray) : btDec (enB s ++ T) ((sgT s).length : Int) 9 = (sgT s, 0) := bt_backT 9 (sgT s) T (by decide) (sgT_in s) (by have := sgT_length s; omega)
theorem encT_len (n : Nat) : ∀ (t : List Int) (st : List Bool × List Int) (ch : List Int) (r : List Bool × List Int), encT n t st ch = some r → r.1.length = st.1.length + n * t.length
  | [], st, ch, r, h => by
    rw [encT] at h
    obtain rfl := Option.some.inj h
    simp
  | x :: t, st, ch, r, h => by
    rw [encT] at h
    by_cases hx : x < 0 ∨ (2 ^ n : Nat) ≤ x
    · rw [if_pos hx] at h; cases h
    · rw [if_neg hx] at h
      rw [encT_len n t _ _ r h, (wk_len x.toNat n st 1 ch).1, List.length_cons, Nat.mul_succ]
      omega
theorem sos_size (l : List Int) : (strOfNums l).size = l.length := by rw [← nb_length]; simp [nb, strOfNums]
theorem encP_size (l : List Bool) (ps : List Int) : (encP l ps).1.size ≤ 4 * l.length + 4 := by
  unfold encP
  split
  · exact Nat.zero_le _
  · split
    · exact Nat.zero_le _
    · split
      · exact Nat.zero_le _
      · show (strOfNums _).size ≤ _
        rw [sos_size]
        exact enc_len _ _ _ _
theorem btEnc_size (t : List Int) : (btEnc t 9).1.size ≤ 36 * t.length + 4 := by
  unfold btEnc
  rw [if_neg (by decide)]
  split
  · exact Nat.zero_le _
  · rename_i r h
    have := encT_len _ _ _ _ _ h
    have h2 := encP_size r.1 r.2
    have e9 : (9 : Int).toNat = 9 := rfl
    rw [e9] at this
    simp only [List.length_nil] at this
    omega
theorem enB_size {s : ByteArray} (hs : s.size ≤ 65536) : (enB s).size ≤ 3000000 := by
  have := btEnc_size (sgT s)
  have h := sgT_length s
  unfold enB
  omega
theorem bs_small {n : Nat} (hn : n ≤ 65536) : (bs n).size ≤ 5 := by rw [bs_size]; exact en_len5 (by omega)
/-! ### the numbers ahead -/
/-- What is read of the three numbers ahead. -/
def Nums (s : ByteArray) (n0 n1 n2 : Int) (rest : ByteArray) : Prop := ∃ s1 s2, rdS s 5 = (n0, s1, 0) ∧ rdS s1 5 = (n1, s2, 0) ∧ rdS s2 5 = (n2, rest, 0)
theorem rd_front (n : Nat) (hn : n ≤ 4294967295) (t : ByteArray) : rdS (bs n ++ t) 5 = ((n : Int), t, 0) :=
  rdS_back n hn (bs n ++ t) t (by rw [nb_append, nb_bs]) 5 (Nat.le_refl _) (by have := en_pos n; omega)
theorem nums_put {s : ByteArray} (hs : s.size ≤ 65536) (T : ByteArray) : Nums (putT s ++ T) (s.size : Int) (tA s : Int) ((sgT s).length : Int) (enB s ++ T) := by
  have hl := sgT_length s
  have ha := tA_le s
  refine ⟨bs (tA s) ++ (bs (sgT s).length ++ (enB s ++ T)), bs (sgT s).length ++ (enB s ++ T), ?_, rd_front _ (by omega) _, rd_front _ (by omega) _⟩
  have e : putT s ++ T = bs s.size ++ (bs (tA s) ++ (bs (sgT s).length ++ (enB s ++ T))) := by
    unfold putT
    rw [ByteArray.append_assoc, ByteArray.append_assoc, ByteArray.append_assoc]
  rw [e]
  exact rd_front _ (by omega) _
end Go.Proofs.YtdifgiceallpiaaDoor.Pure
