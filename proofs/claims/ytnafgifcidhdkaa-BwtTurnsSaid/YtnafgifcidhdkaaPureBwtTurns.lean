/- bwt: the plain law of BwtTurns. -/
import Derived.Test.YtnafgifcidhdkaaPureSufS
import Derived.Test.YtnafgifcidhdkaaHBb
import Derived.Test.YtnafgifcidhdkaaPx4
import Derived.Test.YtnafgifcidhdkaaPx5
import Derived.Test.YtnafgifcidhdkaaPx6
set_option linter.unusedVariables false
set_option linter.unusedSimpArgs false
set_option linter.unusedSectionVars false
namespace Go.Proofs.Ytnafgifcidhdkaa.Pure
open Go Go.RowKit Go.Proofs.Ytnafgifcidhdkaa.P Go.Proofs.YtnafgifcidhdkaaW.PrintWords Go.Proofs.YtnafgifcidhdkaaW.PrintLast Go.Proofs.Ytnafgifcidhdkaa.Com Go.Proofs.Ytnafgifcidhdkaa.Hd Go.Proofs.Ytnafgifcidhdkaa.Hw Go.Proofs.Ytnafgifcidhdkaa.Cn Go.Proofs.Ytnafgifcidhdkaa.Sais Go.Proofs.Ytnafgifcidhdkaa.Bw
theorem rsign_at {t : ByteArray} {a i : Nat} (ha : a ≤ t.size) (hi : i ≤ t.size) (hn : i ≠ a) (hs : t.size ≤ 1073741824) : gladstoneref48_sign.f t (a : Int) (i : Int) = some ((sgn (nb t) a i : Nat) : Int) := by
  have := sign_at ha hi hn hs
  unfold bwt_column_sign.f at this
  unfold gladstoneref48_sign.f
  exact this
theorem bef_l0 {t : ByteArray} {a i : Nat} (ha : a ≤ t.size) (hi : i ≤ t.size) (hn : i ≠ a) (hs : t.size ≤ 1073741824) (d : Nat) : ∀ j, j + d = t.size + 1 →
    Ev (fun k => gladstoneref48_before.l0 k t (a : Int) (i : Int) ((1 + (List.range j).countP (fun k => decide (k ≠ a) && (decide (sgn (nb t) a k < sgn (nb t) a i) || (decide (sgn (nb t) a k = sgn (nb t) a i) && decide (k < i)))) : Nat) : Int) ((sgn (nb t) a i : Nat) : Int) (j : Int)) ((bef (nb t) a i : Nat) : Int) := by
  induction d with
  | zero =>
    intro j hj
    refine Ev.step (f := fun _ => some _) (fun k => ?_) (Ev.now _)
    simp only [gladstoneref48_before.l0]
    rw [if_neg (by omega)]
    unfold bef
    rw [if_neg hn, nb_length, show j = t.size + 1 from by omega]
  | succ d ih =>
    intro j hj
    have h := ih (j + 1) (by omega)
    rw [List.range_succ, List.countP_append, List.countP_singleton] at h
    have hc := List.countP_le_length (p := fun k => decide (k ≠ a) && (decide (sgn (nb t) a k < sgn (nb t) a i) || (decide (sgn (nb t) a k = sgn (nb t) a i) && decide (k < i)))) (l := List.range j)
    rw [List.length_range] at hc
    generalize (List.range j).countP (fun k => decide (k ≠ a) && (decide (sgn (nb t) a k < sgn (nb t) a i) || (decide (sgn (nb t) a k = sgn (nb t) a i) && decide (k < i)))) = c at h hc
    refine Ev.step (fun k => ?_) h
    simp only [gladstoneref48_before.l0]
    rw [if_pos (by omega)]
    have w1 : wrap64 ((j : Int) + 1) = ((j + 1 : Nat) : Int) := by rw [w64 (by omega) (by omega)]; rfl
    have w2 : wrap64 (((1 + c : Nat) : Int) + 1) = ((1 + (c + 1) : Nat) : Int) := by rw [w64 (by omega) (by omega)]; omega
    rw [w1, w2]
    by_cases e : j = a
    · rw [if_pos (by omega), decide_eq_false (by omega : ¬ j ≠ a), Bool.false_and]; rfl
    · rw [if_neg (by omega), rsign_at ha (by omega) e hs, decide_eq_true (by omega : j ≠ a), Bool.true_and]
      simp only [Option.bind_some]
      by_cases l1 : sgn (nb t) a j < sgn (nb t) a i
      · rw [if_pos (by omega), decide_eq_true l1, Bool.true_or]; rfl
      · rw [if_neg (by omega), decide_eq_false l1, Bool.false_or]
        by_cases l2 : sgn (nb t) a j = sgn (nb t) a i
        · rw [if_pos (by omega), decide_eq_true l2, Bool.true_and]
          by_cases l3 : j < i
          · rw [if_pos (by omega), decide_eq_true l3]; rfl
          · rw [if_neg (by omega), decide_eq_false l3]; rfl
        · rw [if_neg (by omega), decide_eq_false l2, Bool.false_and]; rfl
theorem bef_ev {t : ByteArray} {a i : Nat} (ha : a ≤ t.size) (hi : i ≤ t.size) (hn : i ≠ a) (hs : t.size ≤ 1073741824) : Ev (fun k => gladstoneref48_before.f k t (a : Int) (i : Int)) ((bef (nb t) a i : Nat) : Int) := by
  unfold gladstoneref48_before.f
  refine Ev.ifn (by omega) ?_
  rw [rsign_at ha hi hn hs]
  simp only [Option.bind_some]
  exact bef_l0 ha hi hn hs (t.size + 1) 0 (by omega)
theorem rturn_l0 {s : ByteArray} (hs : s.size ≤ 1073741824) {l : List Nat} (hl : l.length ≤ s.size) (hm : ∀ y ∈ l, y < s.size) (hn : l.Nodup) (d : Nat) : ∀ (i : Nat) (b : List Nat) (a : Nat), i + d = l.length → b.length ≤ i + 1 →
    Ev (fun k => gladstoneref48_Turn.l0 k s (iN l) (iN b) (a : Int) (i : Int)) (strOfNums (iN (b ++ ((l.drop i).filter (fun p => p ≠ 0)).map (fun p => (nb s).getD (p - 1) 0))), (((if 0 ∈ l.drop i then i + (l.drop i).idxOf 0 + 1 else a : Nat)) : Int)) := by
  induction d with
  | zero =>
    intro i b a hi hb
    refine Ev.step (f := fun _ => some _) (fun k => ?_) (Ev.now _)
    simp only [gladstoneref48_Turn.l0]
    rw [if_neg (by rw [iN_len]; omega), List.drop_eq_nil_of_le (by omega)]
    simp
  | succ d ih =>
    intro i b a hi hb
    have hil : i < l.length := by omega
    have hp := hm (l.getD i 0) (by rw [Bw.gD hil]; exact List.getElem_mem _)
    have hrd : rd (iN l) (i : Int) = ((l.getD i 0 : Nat) : Int) := by rw [rd_nat, iN_getD]
    have hd : l.drop i = l.getD i 0 :: l.drop (i + 1) := Bw.drop_cc hil
    have hno : l.getD i 0 ∉ l.drop (i + 1) := by
      have h := hn.sublist (List.drop_sublist i l)
      rw [hd] at h
      exact (List.nodup_cons.1 h).1
    generalize l.getD i 0 = p at hp hrd hd hno
    rw [hd]
    by_cases h0 : p = 0
    · subst h0
      have := ih (i + 1) b (i + 1) (by omega) (by omega)
      rw [if_neg hno] at this
      rw [List.filter_cons_of_neg (by simp), if_pos List.mem_cons_self, List.idxOf_cons_self]
      refine Ev.step (fun k => ?_) this
      simp only [gladstoneref48_Turn.l0]
      rw [if_pos (by rw [iN_len]; omega), if_pos (by omega), hrd, if_pos (by rfl), w64 (by omega) (by omega)]
      rfl
    · have := ih (i + 1) (b ++ [(nb s).getD (p - 1) 0]) a (by omega) (by rw [List.length_append, List.length_singleton]; omega)
      rw [List.filter_cons_of_pos (by simp [h0]), List.map_cons]
      rw [List.append_assoc, List.singleton_append] at this
      have e : (if 0 ∈ l.drop (i + 1) then i + 1 + (l.drop (i + 1)).idxOf 0 + 1 else a) = (if 0 ∈ p :: l.drop (i + 1) then i + (p :: l.drop (i + 1)).idxOf 0 + 1 else a) := by
        have e1 : (0 ∈ p :: l.drop (i + 1)) ↔ 0 ∈ l.drop (i + 1) := by simp [Ne.symm h0]
        by_cases h : 0 ∈ l.drop (i + 1)
        · rw [if_pos h, if_pos (e1.2 h), idx_ne _ h0]; omega
        · rw [if_neg h, if_neg (fun z => h (e1.1 z))]
      rw [e] at this
      refine Ev.step (fun k => ?_) this
      simp only [gladstoneref48_Turn.l0]
      have eb : iN b ++ [bt s ((p - 1 : Nat) : Int)] = iN (b ++ [(nb s).getD (p - 1) 0]) := by rw [bt_nb]; unfold iN; simp
      rw [if_pos (by rw [iN_len]; omega), if_pos (by omega), hrd, if_neg (by omega), w64 (x := (p : Int) - 1) (by omega) (by omega), show (p : Int) - 1 = ((p - 1 : Nat) : Int) from by omega, if_pos (by omega), if_pos (by omega), if_pos (by rw [iN_len]; omega), eb, w64 (by omega) (by omega)]
      rfl
theorem rturn_ev {s : ByteArray} (hs : s.size ≤ 1073741824) : Ev (fun k => gladstoneref48_Turn.f k s) (tS s, (tA s : Int)) := by
  unfold gladstoneref48_Turn.f
  have F := srt_facts s
  refine Ev.bind (f := fun k t => _) (sort_ev hs) ?_
  rcases Nat.eq_zero_or_pos s.size with h0 | h0
  · have T := tn_nil h0
    have e : srtN (nb s) = [] := List.eq_nil_of_length_eq_zero (by rw [F.1, h0])
    refine Ev.ifn (by omega) ?_
    unfold tS
    rw [T.1, T.2, e]
    refine Ev.step (fun k => by simp only [gladstoneref48_Turn.j0]; rfl) ?_
    exact rturn_l0 (s := s) (l := []) (by omega) (by simp) (fun _ h => nomatch h) List.nodup_nil 0 0 [] 0 rfl (by simp)
  · have T := tn_cons h0
    have L := rturn_l0 hs (by rw [F.1]; omega) F.2.1 F.2.2.1 (srtN (nb s)).length 0 [(nb s).getD (s.size - 1) 0] 0 (by omega) (by simp)
    rw [List.drop_zero, if_pos (F.2.2.2 h0), List.singleton_append, ← T.1, Nat.zero_add, ← T.2] at L
    refine Ev.ifp (by omega) ?_
    rw [w64 (by omega) (by omega), show (s.size : Int) - 1 = ((s.size - 1 : Nat) : Int) from by omega, bt_nb]
    refine Ev.ifp (by omega) (Ev.ifp (by omega) (Ev.ifp (by simp) ?_))
    exact Ev.step (fun k => by simp only [gladstoneref48_Turn.j0]; rfl) L
theorem str_size {l : List Nat} (h : ∀ x ∈ l, x < 256) : (strOfNums (iN l)).size = l.length := by rw [← nb_length, show nb (strOfNums (iN l)) = l from nb_str l h]
theorem str_cons {x : Nat} {l : List Nat} (hx : x < 256) (h : ∀ x ∈ l, x < 256) : strOfNums [(x : Int)] ++ strOfNums (iN l) = strOfNums (iN (x :: l)) := by
  refine nb_inj ?_
  rw [nb_append, show nb (strOfNums (iN l)) = l from nb_str l h, show nb (strOfNums (iN (x :: l))) = x :: l from nb_str _ (fun y hy => by rcases List.mem_cons.1 hy with e | e; (rw [e]; exact hx); exact h y e), show nb (strOfNums [(x : Int)]) = [x] from nb_str [x] (fun y hy => by rw [List.mem_singleton.1 hy]; exact hx)]
  rfl
theorem bkL_lt {t : List Nat} {a : Nat} (ht : ∀ x ∈ t, x < 256) (k : Nat) : ∀ (i : Nat) (s : List Nat), (∀ x ∈ s, x < 256) → ∀ x ∈ bkL t a k i s, x < 256 := by
  induction k with
  | zero => intro i s h; exact h
  | succ k ih =>
    intro i s h
    unfold bkL
    split
    · exact h
    · exact ih _ _ (fun y hy => by rcases List.mem_cons.1 hy with e | e; (rw [e]; exact sgn_lt ht a i); exact h y e)
theorem bkL_len {t : List Nat} {a : Nat} (k : Nat) : ∀ (i : Nat) (s : List Nat), (bkL t a k i s).length ≤ s.length + k := by
  induction k with
  | zero => intro i s; exact Nat.le_refl _
  | succ k ih =>
    intro i s
    unfold bkL
    split
    · omega
    · have := ih (bef t a i) (sgn t a i :: s)
      rw [List.length_cons] at this
      omega
theorem toL {x y : ByteArray} : x.toList = y.toList ↔ x = y := by
  constructor
  · intro h
    refine nb_inj ?_
    rw [ByteArray.toList_eq, ByteArray.toList_eq] at h
    unfold nb
    rw [h]
  · intro h; rw [h]
/-- What the last test gives. -/
def fin (t : ByteArray) (a : Int) (y : ByteArray) : ByteArray × Int := if tS y = t ∧ (tA y : Int) = a then (y, 0) else (⟨#[]⟩, 4)
theorem bkO_fin {t : ByteArray} {a : Nat} (ha : a ≤ t.size) (h0 : a = 0 → t.size = 0) : bkO t (a : Int) = fin t (a : Int) (strOfNums (iN (bkL (nb t) a t.size 0 []))) := by
  unfold bkO
  rw [if_neg (by rintro (h | h | ⟨h1, h2⟩); (omega); (omega); exact h2 (h0 (by omega))), Int.toNat_natCast]
  cases e : bkR (nb t) a t.size 0 [] with
  | none =>
    have hl := bkR_none _ _ _ e
    have hlt := bkL_lt (nb_lt t) (a := a) t.size 0 [] (fun _ h => nomatch h)
    show _ = fin _ _ _
    unfold fin
    rw [if_neg]
    rintro ⟨h, _⟩
    have := congrArg ByteArray.size h
    rw [tS_size, str_size hlt] at this
    rw [List.length_nil] at hl
    omega
  | some l =>
    have hl := bkR_some _ _ _ _ e
    rw [hl.2]
    rfl
theorem rback_l0 {t : ByteArray} {a : Nat} (ha : a ≤ t.size) (hs : t.size ≤ 1073741824) (d : Nat) : ∀ (i : Nat) (s : List Nat), i ≤ t.size → s.length + d = t.size → (∀ x ∈ s, x < 256) →
    Ev (fun k => gladstoneref48_Back.l0 k t (a : Int) (strOfNums (iN s)) (i : Int) (s.length : Int)) (fin t (a : Int) (strOfNums (iN (bkL (nb t) a d i s)))) := by
  have last : ∀ (i : Nat) (s : List Nat) (n : Int), s.length ≤ t.size → (∀ x ∈ s, x < 256) → Ev (fun k => gladstoneref48_Back.j2 k t (a : Int) (strOfNums (iN s)) (i : Int) n false) (fin t (a : Int) (strOfNums (iN s))) := by
    intro i s n hl hlt
    have hsz := str_size hlt
    generalize strOfNums (iN s) = y at hsz ⊢
    refine Ev.step (fun k => by simp only [gladstoneref48_Back.j2]; rfl) ?_
    refine Ev.ifn (by simp) ?_
    refine Ev.bind (f := fun k t => _) (rturn_ev (s := y) (by omega)) ?_
    unfold fin
    by_cases h1 : tS y = t
    · refine Ev.ifp (toL.2 h1) ?_
      by_cases h2 : (tA y : Int) = (a : Int)
      · refine Ev.ifp h2 ?_
        rw [if_pos ⟨h1, h2⟩]; exact Ev.now _
      · refine Ev.ifn h2 ?_
        rw [if_neg (fun z => h2 z.2)]; exact Ev.now _
    · refine Ev.ifn (fun z => h1 (toL.1 z)) ?_
      rw [if_neg (fun z => h1 z.1)]; exact Ev.now _
  induction d with
  | zero =>
    intro i s hi hl hlt
    refine Ev.step (f := fun k => gladstoneref48_Back.j2 k t (a : Int) (strOfNums (iN s)) (i : Int) (s.length : Int) false) (fun k => ?_) (last i s _ (by omega) hlt)
    simp only [gladstoneref48_Back.l0]
    rw [if_neg (by omega)]
  | succ d ih =>
    intro i s hi hl hlt
    unfold bkL
    by_cases e : i = a
    · rw [if_pos e]
      refine Ev.step (f := fun k => gladstoneref48_Back.j2 k t (a : Int) (strOfNums (iN s)) (i : Int) (s.length : Int) false) (fun k => ?_) (last i s _ (by omega) hlt)
      simp only [gladstoneref48_Back.l0]
      rw [if_pos (by omega), show ((i : Int) != (a : Int)) = false from bne_eq_false_iff_eq.mpr (by omega)]
    · rw [if_neg e]
      have hx := sgn_lt (nb_lt t) a i
      have hb := bef_le (nb t) (a := a) (i := i) (by rw [nb_length]; exact ha) (by rw [nb_length]; exact hi)
      rw [nb_length] at hb
      have hev := bef_ev ha hi e hs
      have hsg := rsign_at ha hi e hs
      generalize sgn (nb t) a i = x at hx hsg
      generalize bef (nb t) a i = j at hb hev
      have h := ih j (x :: s) hb (by rw [List.length_cons]; omega) (fun y hy => by rcases List.mem_cons.1 hy with e | e; (rw [e]; exact hx); exact hlt y e)
      rw [← str_cons hx hlt, List.length_cons] at h
      refine Ev.step (f := fun k => gladstoneref48_Back.j2 k t (a : Int) (strOfNums (iN s)) (i : Int) (s.length : Int) true) (fun k => ?_) ?_
      · simp only [gladstoneref48_Back.l0]
        rw [if_pos (by omega), show ((i : Int) != (a : Int)) = true from bne_iff_ne.mpr (by omega)]
      · refine Ev.step (fun k => by simp only [gladstoneref48_Back.j2]; rfl) ?_
        rw [hsg]
        refine Ev.ifp trivial ?_
        simp only [Option.bind_some]
        refine Ev.ifp (by have h1 := str_size hlt; have h2 := str_size (l := [x]) (fun y hy => by rw [List.mem_singleton.1 hy]; exact hx); simp only [iN, List.map_cons, List.map_nil, List.length_singleton] at h1 h2 ⊢; omega) ?_
        refine Ev.bind (f := fun k t => _) hev ?_
        rw [w64 (by omega) (by omega)]
        exact h
theorem rback_ev {t : ByteArray} {a : Int} (hs : t.size ≤ 1073741824) : Ev (fun k => gladstoneref48_Back.f k t a) (bkO t a) := by
  have bad : a < 0 ∨ (t.size : Int) < a ∨ (a = 0 ∧ t.size ≠ 0) → Ev (fun k => gladstoneref48_Back.j0 k t a true) (bkO t a) := by
    intro h
    unfold bkO
    rw [if_pos h]
    refine Ev.step (fun k => by simp only [gladstoneref48_Back.j0]; rfl) ?_
    exact Ev.ifp trivial (Ev.now _)
  have good : ¬ (a < 0 ∨ (t.size : Int) < a ∨ (a = 0 ∧ t.size ≠ 0)) → Ev (fun k => gladstoneref48_Back.j0 k t a false) (bkO t a) := by
    intro h
    obtain ⟨n, rfl⟩ : ∃ n : Nat, a = (n : Int) := ⟨a.toNat, by omega⟩
    rw [bkO_fin (by omega) (fun e => by omega)]
    refine Ev.step (fun k => by simp only [gladstoneref48_Back.j0]; rfl) ?_
    refine Ev.ifn (by simp) ?_
    exact rback_l0 (by omega) hs t.size 0 [] (Nat.zero_le _) (by simp) (fun _ h => nomatch h)
  unfold gladstoneref48_Back.f
  by_cases h1 : a < 0
  · exact Ev.ifp h1 (bad (.inl h1))
  · refine Ev.ifn h1 ?_
    by_cases h2 : a > (t.size : Int)
    · exact Ev.ifp h2 (bad (.inr (.inl h2)))
    · refine Ev.ifn h2 ?_
      by_cases h3 : a = 0
      · refine Ev.ifp h3 ?_
        by_cases h4 : t.size = 0
        · rw [show (t.toList != ([] : List UInt8)) = false from bne_eq_false_iff_eq.mpr (by rw [ByteArray.toList_eq]; exact List.eq_nil_of_length_eq_zero (by simpa using h4))]
          exact good (by omega)
        · rw [show (t.toList != ([] : List UInt8)) = true from bne_iff_ne.mpr (fun z => by have := emp_f h4; rw [z] at this; cases this)]
          exact bad (by omega)
      · refine Ev.ifn h3 ?_
        exact good (by omega)
set_option maxRecDepth 100000 in
theorem awake_true : gladstonelaw48_awake.f 40 = some true := by decide +kernel
theorem awake_ev : Ev (fun k => gladstonelaw48_awake.f k) true := Ev.of (fun k => gladstonelaw48_awake.mono k) awake_true
theorem BwtTurns : gladstonelaw48_BwtTurns.Pure := by
  intro s t a _ _ _
  refine Ev.rounds ?_
  unfold gladstonelaw48_BwtTurns.f
  have big : Ev (fun k => gladstonelaw48_BwtTurns.j0 k s t a true) true := by
    refine Ev.step (fun k => by simp only [gladstonelaw48_BwtTurns.j0]; rfl) ?_
    exact Ev.ifp trivial (Ev.bind (f := fun _ t => some t) awake_ev (Ev.now _))
  by_cases h1 : (s.size : Int) > 150
  · exact Ev.ifp h1 big
  · refine Ev.ifn h1 ?_
    by_cases h2 : (t.size : Int) > 60
    · rw [decide_eq_true h2]; exact big
    · rw [decide_eq_false h2]
      have hs : s.size ≤ 1073741824 := by omega
      have ht : t.size ≤ 1073741824 := by omega
      have e : bwt_Back.f t a = some (bkO t a) := by unfold bwt_Back.f; rw [if_pos ht]
      refine Ev.step (fun k => by simp only [gladstonelaw48_BwtTurns.j0]; rfl) ?_
      refine Ev.ifn (by simp) ?_
      refine Ev.bind (f := fun k t => _) (turn_ev hs) ?_
      refine Ev.bind (f := fun k t => _) (rturn_ev hs) ?_
      rw [e]
      simp only [Option.bind_some]
      refine Ev.bind (f := fun k t => _) (rback_ev ht) ?_
      refine Ev.ifp (by trivial) (Ev.ifp (by trivial) (Ev.ifp (by trivial) (Ev.ifp (by trivial) ?_)))
      exact Ev.bind (f := fun _ t => some t) awake_ev (Ev.now _)
end Go.Proofs.Ytnafgifcidhdkaa.Pure
