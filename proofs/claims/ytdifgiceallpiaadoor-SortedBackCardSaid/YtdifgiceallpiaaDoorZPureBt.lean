/- bwt: what Turn answers, plainly. -/
import Derived.Test.YtdifgiceallpiaaDoorZPureBw
import Derived.Test.YtdifgiceallpiaaDoorZHSfS
import Derived.Test.YtdifgiceallpiaaDoorZPx2
set_option linter.unusedVariables false
set_option linter.unusedSimpArgs false
set_option linter.unusedSectionVars false
namespace Go.Proofs.YtdifgiceallpiaaDoor.Pure
open Go Go.RowKit Go.Proofs.YtdifgiceallpiaaDoor.P Go.Proofs.YtdifgiceallpiaaDoorW.PrintWords Go.Proofs.YtdifgiceallpiaaDoorW.PrintLast Go.Proofs.YtdifgiceallpiaaDoor.Com Go.Proofs.YtdifgiceallpiaaDoor.Hd Go.Proofs.YtdifgiceallpiaaDoor.Hw Go.Proofs.YtdifgiceallpiaaDoor.Cn Go.Proofs.YtdifgiceallpiaaDoor.Sais Go.Proofs.YtdifgiceallpiaaDoor.Bw
theorem idx_ne {p : Nat} (l : List Nat) (h : p ≠ 0) : (p :: l).idxOf 0 = l.idxOf 0 + 1 := by rw [List.idxOf_cons, beq_eq_false_iff_ne.2 h]; rfl
/-- The ends in order, the one alone first. -/
def rws (s : ByteArray) : List Nat := s.size :: srtN (nb s)
def tL (s : ByteArray) : List Nat := tnT (nb s) (rws s)
def tS (s : ByteArray) : ByteArray := strOfNums (iN (tL s))
def tA (s : ByteArray) : Nat := (rws s).idxOf 0
theorem rws_ok (s : ByteArray) : RowsOk (nb s) (rws s) := by
  have h := srtN_ok (nb s)
  unfold rws
  rw [← nb_length]
  exact rows_of h.p.len h.p.nd h.p.lt h.p.all h.o
theorem rws_len (s : ByteArray) : (rws s).length = s.size + 1 := by rw [(rws_ok s).len, nb_length]
theorem tA_lt (s : ByteArray) : tA s < (rws s).length := List.idxOf_lt_length_iff.2 ((rws_ok s).all 0 (by omega))
theorem tA_le (s : ByteArray) : tA s ≤ s.size := by have := tA_lt s; rw [rws_len] at this; omega
theorem tA_at (s : ByteArray) : (rws s).getD (tA s) 0 = 0 := by
  rw [Bw.gD (tA_lt s)]
  exact List.getElem_idxOf (tA_lt s)
theorem tL_len (s : ByteArray) : (tL s).length = s.size := (tn_len (rws_ok s) (tA_lt s) (tA_at s)).trans (nb_length s)
theorem getD_lt {x : List Nat} (h : ∀ y ∈ x, y < 256) (i : Nat) : x.getD i 0 < 256 := by
  rw [List.getD_eq_getElem?_getD]
  cases e : x[i]? with
  | none => simp
  | some v => exact h v (List.mem_of_getElem? e)
theorem tL_lt (s : ByteArray) : ∀ x ∈ tL s, x < 256 := by
  intro x hx
  unfold tL tnT at hx
  obtain ⟨p, _, rfl⟩ := List.mem_map.1 hx
  exact getD_lt (nb_lt s) _
theorem nb_tS (s : ByteArray) : nb (tS s) = tL s := nb_str _ (tL_lt s)
theorem tS_size (s : ByteArray) : (tS s).size = s.size := by rw [← nb_length, nb_tS, tL_len]
theorem turn_l0 {s : ByteArray} (hs : s.size ≤ 1073741824) {l : List Nat} (hl : l.length ≤ s.size) (hm : ∀ y ∈ l, y < s.size) (hn : l.Nodup) (d : Nat) : ∀ (i : Nat) (b : List Nat) (a : Nat), i + d = l.length → b.length ≤ i + 1 →
    Ev (fun k => bwt_Turn.l0 k s (iN b) (a : Int) (iN l) (l.length : Int) (i : Int)) (strOfNums (iN (b ++ ((l.drop i).filter (fun p => p ≠ 0)).map (fun p => (nb s).getD (p - 1) 0))), (((if 0 ∈ l.drop i then i + (l.drop i).idxOf 0 + 1 else a : Nat)) : Int)) := by
  induction d with
  | zero =>
    intro i b a hi hb
    refine Ev.step (f := fun _ => some _) (fun k => ?_) (Ev.now _)
    simp only [bwt_Turn.l0]
    rw [if_neg (by omega), List.drop_eq_nil_of_le (by omega)]
    simp
  | succ d ih =>
    intro i b a hi hb
    have hil : i < l.length := by omega
    have hp := hm (l.getD i 0) (by rw [Bw.gD hil]; exact List.getElem_mem _)
    have hrd : rd (iN l) (i : Int) = ((l.getD i 0 : Nat) : Int) := by rw [rd_nat, iN_getD]
    have hd : l.drop i = l.getD i 0 :: l.drop (i + 1) := Bw.drop_cc hil
    have hno : l.getD i 0 ∉ l.drop (i + 1) := by
      have h := hn.sublist (List.drop_sublist i l)
      rw [hd] at h
      exact (List.nodup_cons.1 h).1
    generalize l.getD i 0 = p at hp hrd hd hno
    rw [hd]
    by_cases h0 : p = 0
    · subst h0
      have := ih (i + 1) b (i + 1) (by omega) (by omega)
      rw [if_neg hno] at this
      rw [List.filter_cons_of_neg (by simp), if_pos List.mem_cons_self, List.idxOf_cons_self]
      refine Ev.step (fun k => ?_) this
      simp only [bwt_Turn.l0]
      rw [if_pos (by omega), if_pos (by omega), if_pos (by rw [iN_len]; omega), hrd, if_pos (by rfl), w64 (by omega) (by omega)]
      rfl
    · have := ih (i + 1) (b ++ [(nb s).getD (p - 1) 0]) a (by omega) (by rw [List.length_append, List.length_singleton]; omega)
      rw [List.filter_cons_of_pos (by simp [h0]), List.map_cons]
      rw [List.append_assoc, List.singleton_append] at this
      have e : (if 0 ∈ l.drop (i + 1) then i + 1 + (l.drop (i + 1)).idxOf 0 + 1 else a) = (if 0 ∈ p :: l.drop (i + 1) then i + (p :: l.drop (i + 1)).idxOf 0 + 1 else a) := by
        have e1 : (0 ∈ p :: l.drop (i + 1)) ↔ 0 ∈ l.drop (i + 1) := by simp [Ne.symm h0]
        by_cases h : 0 ∈ l.drop (i + 1)
        · rw [if_pos h, if_pos (e1.2 h), idx_ne _ h0]; omega
        · rw [if_neg h, if_neg (fun z => h (e1.1 z))]
      rw [e] at this
      refine Ev.step (fun k => ?_) this
      simp only [bwt_Turn.l0]
      have eb : iN b ++ [bt s ((p - 1 : Nat) : Int)] = iN (b ++ [(nb s).getD (p - 1) 0]) := by rw [bt_nb]; unfold iN; simp
      rw [if_pos (by omega), if_pos (by omega), if_pos (by rw [iN_len]; omega), hrd, if_neg (by omega), w64 (x := (p : Int) - 1) (by omega) (by omega), show (p : Int) - 1 = ((p - 1 : Nat) : Int) from by omega, if_pos (by omega), if_pos (by omega), if_pos (by rw [iN_len]; omega), eb, w64 (by omega) (by omega)]
      rfl
theorem srt_facts (s : ByteArray) : (srtN (nb s)).length = s.size ∧ (∀ y ∈ srtN (nb s), y < s.size) ∧ (srtN (nb s)).Nodup ∧ (0 < s.size → 0 ∈ srtN (nb s)) := by
  have h := srtN_ok (nb s)
  exact ⟨by rw [h.p.len, nb_length], fun y hy => by have := h.p.lt y hy; rw [nb_length] at this; exact this, h.p.nd, fun h0 => h.p.all 0 (by rw [nb_length]; exact h0)⟩
/-- The rows of a text with a byte. -/
theorem tn_cons {s : ByteArray} (h0 : 0 < s.size) : tL s = (nb s).getD (s.size - 1) 0 :: ((srtN (nb s)).filter (fun p => p ≠ 0)).map (fun p => (nb s).getD (p - 1) 0) ∧ tA s = (srtN (nb s)).idxOf 0 + 1 := by
  unfold tL tnT tA rws
  rw [List.filter_cons_of_pos (p := fun p => decide (p ≠ 0)) (decide_eq_true (by omega)), List.map_cons, idx_ne _ (by omega)]
  exact ⟨rfl, rfl⟩
theorem tn_nil {s : ByteArray} (h0 : s.size = 0) : tL s = [] ∧ tA s = 0 := by
  have h := srt_facts s
  have e : srtN (nb s) = [] := List.eq_nil_of_length_eq_zero (by rw [h.1, h0])
  unfold tL tnT tA rws
  rw [e, h0]
  exact ⟨rfl, rfl⟩
theorem turn_ev {s : ByteArray} (hs : s.size ≤ 1073741824) : Ev (fun k => bwt_Turn.f k s) (tS s, (tA s : Int)) := by
  unfold bwt_Turn.f
  by_cases h : s.toList = []
  · have h0 : s.size = 0 := by
      have := congrArg List.length h
      rw [ByteArray.toList_eq] at this
      simpa using this
    refine Ev.ifp h ?_
    have := tn_nil h0
    unfold tS
    rw [this.1, this.2]
    exact Ev.now _
  · have h0 : 0 < s.size := by
      rcases Nat.eq_zero_or_pos s.size with e | e
      · exact absurd (List.eq_nil_of_length_eq_zero (by rw [ByteArray.toList_eq]; simpa using e)) h
      · exact e
    have F := srt_facts s
    have T := tn_cons h0
    have L := turn_l0 hs (by rw [F.1]; omega) F.2.1 F.2.2.1 (srtN (nb s)).length 0 [(nb s).getD (s.size - 1) 0] 0 (by omega) (by simp)
    rw [List.drop_zero, if_pos (F.2.2.2 h0), List.singleton_append, ← T.1, Nat.zero_add, ← T.2] at L
    refine Ev.ifn h ?_
    have e : suffix_Sort.f s = some (iN (srtN (nb s))) := by unfold suffix_Sort.f; rw [if_pos hs]
    rw [w64 (by omega) (by omega), show (s.size : Int) - 1 = ((s.size - 1 : Nat) : Int) from by omega, bt_nb, e]
    refine Ev.ifp (by omega) (Ev.ifp (by omega) ?_)
    simp only [Option.bind_some]
    rw [iN_len]
    exact L
/-- The way back. -/
def bkR (t : List Nat) (a : Nat) : Nat → Nat → List Nat → Option (List Nat)
  | 0, _, s => some s
  | k + 1, i, s => if i = a then none else bkR t a k (bef t a i) (sgn t a i :: s)
def bkO (t : ByteArray) (a : Int) : ByteArray × Int :=
  if a < 0 ∨ (t.size : Int) < a ∨ (a = 0 ∧ t.size ≠ 0) then (⟨#[]⟩, 2) else
  match bkR (nb t) a.toNat t.size 0 [] with
  | none => (⟨#[]⟩, 4)
  | some l => if tS (strOfNums (iN l)) = t ∧ (tA (strOfNums (iN l)) : Int) = a then (strOfNums (iN l), 0) else (⟨#[]⟩, 4)
theorem bkR_some {t : List Nat} {a : Nat} (k : Nat) : ∀ (i : Nat) (s l : List Nat), bkR t a k i s = some l → l.length = s.length + k ∧ bkL t a k i s = l := by
  induction k with
  | zero => intro i s l h; unfold bkR at h; obtain rfl := Option.some.inj h; exact ⟨rfl, rfl⟩
  | succ k ih =>
    intro i s l h
    unfold bkR at h
    unfold bkL
    split at h
    · cases h
    · rename_i hn
      have := ih _ _ _ h
      rw [if_neg hn]
      exact ⟨by rw [this.1, List.length_cons]; omega, this.2⟩
theorem bkR_none {t : List Nat} {a : Nat} (k : Nat) : ∀ (i : Nat) (s : List Nat), bkR t a k i s = none → (bkL t a k i s).length < s.length + k := by
  induction k with
  | zero => intro i s h; unfold bkR at h; cases h
  | succ k ih =>
    intro i s h
    unfold bkR at h
    unfold bkL
    split at h
    · rename_i hn; rw [if_pos hn]; omega
    · rename_i hn
      have := ih _ _ h
      rw [if_neg hn]
      rw [List.length_cons] at this
      omega
end Go.Proofs.YtdifgiceallpiaaDoor.Pure
