/- The law SplitNoLess. -/
import Derived.Test.YtdejkajdlflabaaPureSp5
import Derived.Test.YtdejkajdlflabaaPx8
set_option linter.unusedVariables false
set_option linter.unusedSimpArgs false
set_option linter.unusedSectionVars false
namespace Go.Proofs.Ytdejkajdlflabaa.Pure
open Go.RowKit Go.Proofs.YtdejkajdlflabaaW.PrintWords Go.Proofs.YtdejkajdlflabaaW.PrintMore Go.Proofs.Ytdejkajdlflabaa.Hd Go.Proofs.Ytdejkajdlflabaa.P Go.Proofs.Ytdejkajdlflabaa.Com Go.Proofs.Ytdejkajdlflabaa.Cn
attribute [local irreducible] W spd lgC
section
variable {m : Nat} {fee : Int}
/-- No other first part costs less. -/
theorem WF_least (hm : 1 ≤ m) {bs : List Nat} {n : Nat} (h1 : 1 ≤ n) (h2 : n ≤ m) (h3 : n ≤ bs.length) : (WF m fee bs 0).2 ≤ costP (bs.take n) fee + (WF m fee (bs.drop n) 0).2 := by
  have hs := WF_step (most := m) (fee := fee) bs (i := 0) (by omega)
  rw [hs]
  have := (pick_spec (z := min m (bs.length - 0)) (by omega) (fun n => costP ((bs.drop 0).take n) fee + (WF m fee bs (0 + n)).2)).2 n h1 (by omega)
  rw [WF_drop]
  simp only [Nat.zero_add, List.drop_zero] at this
  simp only [Nat.zero_add, List.drop_zero]
  exact this
theorem WF_is (hm : 1 ≤ m) {bs : List Nat} (h : 0 < bs.length) : 1 ≤ (WF m fee bs 0).1 ∧ (WF m fee bs 0).1 ≤ m ∧ (WF m fee bs 0).1 ≤ bs.length ∧ (WF m fee bs 0).2 = costP (bs.take (WF m fee bs 0).1) fee + (WF m fee (bs.drop (WF m fee bs 0).1) 0).2 := by
  have hs := WF_step (most := m) (fee := fee) bs (i := 0) h
  obtain ⟨⟨a, b, c⟩, _⟩ := pick_spec (z := min m (bs.length - 0)) (by omega) (fun n => costP ((bs.drop 0).take n) fee + (WF m fee bs (0 + n)).2)
  rw [← hs] at a b c
  refine ⟨a, by omega, by omega, ?_⟩
  rw [WF_drop]
  simp only [Nat.zero_add, List.drop_zero] at c
  exact c
theorem WF_pos (hm : 1 ≤ m) (hf : 0 ≤ fee ∧ fee ≤ 1048576) {bs : List Nat} (hb : ∀ x ∈ bs, x < 256) (hl : bs.length ≤ 4096) : 0 ≤ (WF m fee bs 0).2 ∧ (WF m fee bs 0).2 ≤ 1099511627776 := by
  have := WFB hm hf bs hb hl 0 0
  rwa [if_neg (by omega)] at this
theorem cost_at (s : ByteArray) {n : Nat} (h1 : 1 ≤ n) (h2 : n ≤ s.size) (hs : s.size ≤ 4096) (hf : 0 ≤ fee ∧ fee ≤ 1048576) : Ev (fun k => gladstoneref53_Cost.f k (s.extract 0 n) fee) (costP ((nb s).take n) fee) := by
  have hn := ext_take s n
  have hl := nb_length s
  have hsz : (s.extract 0 n).size ≤ 4096 := by rw [← nb_length, hn, List.length_take]; omega
  have := rcost_ev (s.extract 0 n) hsz fee hf
  rw [hn] at this
  unfold costQ at this
  rw [if_neg (fun h => by have h9 := congrArg List.length h; rw [List.length_take, List.length_nil] at h9; omega)] at this
  exact this
theorem cost_mid (s : ByteArray) {a n : Nat} (h1 : 1 ≤ n) (h2 : a + n ≤ s.size) (hs : s.size ≤ 4096) (hf : 0 ≤ fee ∧ fee ≤ 1048576) : Ev (fun k => gladstoneref53_Cost.f k (s.extract a (a + n)) fee) (costP (((nb s).drop a).take n) fee) := by
  have hn : nb (s.extract a (a + n)) = ((nb s).drop a).take n := by rw [nb_extract, Nat.add_sub_cancel_left]
  have hl := nb_length s
  have hsz : (s.extract a (a + n)).size ≤ 4096 := by rw [← nb_length, hn, List.length_take, List.length_drop]; omega
  have := rcost_ev (s.extract a (a + n)) hsz fee hf
  rw [hn] at this
  unfold costQ at this
  rw [if_neg (fun h => by have h9 := congrArg List.length h; rw [List.length_take, List.length_drop, List.length_nil] at h9; omega)] at this
  exact this
theorem w_ok {x : Int} (h0 : 0 ≤ x) (h1 : x ≤ 4398046511104 * 240) : wrap64 x = x := w64 (by omega) (by omega)
theorem i_ok {i : Nat} (h : i ≤ 17592186044536) : wrap64 ((i : Int) + 1) = ((i + 1 : Nat) : Int) := by rw [w64 (by omega) (by omega)]; omega
theorem sub_ok {a b : Nat} (h : a ≤ b) (hb : b ≤ 4096) : wrap64 ((b : Int) - (a : Int)) = ((b - a : Nat) : Int) := by rw [w64 (by omega) (by omega)]; omega
theorem add_ok {a b c : Nat} (h : a + b ≤ c) (hc : c ≤ 4096) : wrap64 ((a : Int) + (b : Int)) = ((a + b : Nat) : Int) := by rw [w64 (by omega) (by omega)]; omega
theorem mn2_at {m sz : Nat} {x : Int} (hm : 1 ≤ m) (hs : 0 < sz) (hx : 0 ≤ x) : ∃ n : Nat, mn (mn (m : Int) (sz : Int)) (x % 20 + 1) = (n : Int) ∧ 1 ≤ n ∧ n ≤ m ∧ n ≤ sz := by
  refine ⟨(mn (mn (m : Int) (sz : Int)) (x % 20 + 1)).toNat, ?_, ?_, ?_, ?_⟩ <;> (unfold mn; split <;> split <;> omega)
theorem mn_at {m sz : Nat} (hm : 1 ≤ m) (hs : 0 < sz) : ∃ n : Nat, mn (m : Int) (sz : Int) = (n : Int) ∧ 1 ≤ n ∧ n ≤ m ∧ n ≤ sz := by
  refine ⟨(mn (m : Int) (sz : Int)).toNat, ?_, ?_, ?_, ?_⟩ <;> (unfold mn; split <;> omega)
theorem mod_ok {x : Int} (h : 0 ≤ x ∧ x ≤ 255) : wrap64 (wrap64 (Int.tmod x 20) + 1) = x % 20 + 1 := by
  rw [Int.tmod_eq_emod_of_nonneg h.1, w64 (x := x % 20) (by omega) (by omega), w64 (by omega) (by omega)]
/-- Whatever other parts there are. -/
theorem less_l1 (hm : 1 ≤ m ∧ m ≤ 65536) (hf : 0 ≤ fee ∧ fee ≤ 1048576) (o : List Int) (ho : ∀ x ∈ o, 0 ≤ x ∧ x ≤ 255) (hol : o.length ≤ 140737488351232) (N : Int) (D : Nat) : ∀ (s : ByteArray) (all : Int) (i : Nat), s.size ≤ D → s.size ≤ 120 → i + s.size ≤ 17592186044536 → 0 ≤ all → all ≤ 4398046511104 * (120 - (s.size : Int)) → N ≤ all + (WF m fee (nb s) 0).2 → Ev (fun k => gladstonelaw53_SplitNoLess.l1 k o (m : Int) fee N s all (i : Int)) true := by
  induction D with
  | zero =>
    intro s all i h _ _ _ _ hN
    have e : nb s = [] := List.eq_nil_of_length_eq_zero (by rw [nb_length]; omega)
    rw [e, show WF m fee [] 0 = (0, 0) from rfl] at hN
    refine Ev.step (f := fun k => (gladstonelaw53_awake.f k).bind fun t => some t) (fun k => ?_) awake_b
    simp only [gladstonelaw53_SplitNoLess.l1]
    rw [if_pos ((nil_iff s).2 e), if_pos (by simpa using hN)]
  | succ D ih =>
    intro s all i h hs hi h0 hb hN
    by_cases e : nb s = []
    · rw [e, show WF m fee [] 0 = (0, 0) from rfl] at hN
      refine Ev.step (f := fun k => (gladstonelaw53_awake.f k).bind fun t => some t) (fun k => ?_) awake_b
      simp only [gladstonelaw53_SplitNoLess.l1]
      rw [if_pos ((nil_iff s).2 e), if_pos (by simpa using hN)]
    · have hlen := nb_length s
      have hpos : 0 < s.size := by rw [← hlen]; exact List.length_pos_iff.2 e
      have hne : ¬ s.toList = [] := fun h' => e ((nil_iff s).1 h')
      have step : ∀ n : Nat, 1 ≤ n → n ≤ m → n ≤ s.size → Ev (fun k => (gladstoneref53_Cost.f k (s.extract 0 n) fee).bind fun t => gladstonelaw53_SplitNoLess.l1 k o (m : Int) fee N (s.extract n s.size) (wrap64 (all + t)) (wrap64 ((i : Int) + 1))) true := by
        intro n h1 h2 h3
        have hc := cost_bd (bs := (nb s).take n) (fee := fee) (take_lt (nb_lt s) n) (by rw [List.length_take]; omega) hf
        have hl := WF_least (fee := fee) hm.1 (bs := nb s) h1 h2 (by omega)
        have hnd := ext_drop s h3
        have hsz : (s.extract n s.size).size = s.size - n := by rw [← nb_length, hnd, List.length_drop, hlen]
        have k0 : s.size ≤ 4096 := by omega
        have k1 : (s.extract n s.size).size ≤ D := by omega
        have k2 : (s.extract n s.size).size ≤ 120 := by omega
        have k3 : i + 1 + (s.extract n s.size).size ≤ 17592186044536 := by omega
        have k4 : 0 ≤ all + costP ((nb s).take n) fee := by omega
        have k5 : all + costP ((nb s).take n) fee ≤ 4398046511104 * (120 - ((s.extract n s.size).size : Int)) := by omega
        have k6 : N ≤ all + costP ((nb s).take n) fee + (WF m fee ((nb s).drop n) 0).2 := by omega
        have k7 : i ≤ 17592186044536 := by omega
        have k8 : all + costP ((nb s).take n) fee ≤ 4398046511104 * 240 := by omega
        have ew := w_ok k4 k8
        have ei := i_ok k7
        refine Ev.bind (cost_at s h1 h3 k0 hf) ?_
        simp only [ew, ei]
        refine ih (s.extract n s.size) _ (i + 1) k1 k2 k3 k4 k5 ?_
        rw [hnd]
        exact k6
      by_cases hio : (i : Int) < (o.length : Int)
      · have hio2 : i < o.length := by omega
        have hx := ho _ (List.getElem_mem hio2)
        have hrd : rd o (i : Int) = o[i] := rd_some (List.getElem?_eq_getElem hio2)
        obtain ⟨x, hxe⟩ : ∃ x, o[i] = x := ⟨_, rfl⟩
        rw [hxe] at hx hrd
        have ew := mod_ok hx
        obtain ⟨n, hn, hn1, hn2, hn3⟩ := mn2_at (m := m) (sz := s.size) hm.1 hpos hx.1
        refine Ev.step (fun k => ?_) (step n hn1 hn2 hn3)
        simp only [gladstonelaw53_SplitNoLess.l1]
        rw [if_neg hne, if_pos hio, if_pos (Int.natCast_nonneg _), hrd, ew, hn, if_pos (Int.natCast_nonneg _), if_pos (Int.ofNat_le.2 hn3), Int.toNat_natCast]
      · obtain ⟨n, hn, hn1, hn2, hn3⟩ := mn_at (m := m) (sz := s.size) hm.1 hpos
        refine Ev.step (fun k => ?_) (step n hn1 hn2 hn3)
        simp only [gladstonelaw53_SplitNoLess.l1]
        rw [if_neg hne, if_neg hio, hn, if_pos (Int.natCast_nonneg _), if_pos (Int.ofNat_le.2 hn3), Int.toNat_natCast]
/-- The parts that are told. -/
theorem less_l0 (hm : 1 ≤ m ∧ m ≤ 65536) (hf : 0 ≤ fee ∧ fee ≤ 1048576) (s : ByteArray) (hs : s.size ≤ 120) (o : List Int) (ho : ∀ x ∈ o, 0 ≤ x ∧ x ≤ 255) (hol : o.length ≤ 140737488351232) (done : List Nat) : ∀ (D a : Nat) (cost : Int) (done : List Nat), s.size - a ≤ D → a ≤ s.size → SZ m fee (nb s) = done ++ SZ m fee ((nb s).drop a) → done.length ≤ a → 0 ≤ cost → cost + (WF m fee (nb s) a).2 = (WF m fee (nb s) 0).2 →
    Ev (fun k => gladstonelaw53_SplitNoLess.l0 k s o (m : Int) fee (zl (SZ m fee (nb s))) (WF m fee (nb s) 0).2 0 (a : Int) cost (done.length : Int)) true := by
  have hlen := nb_length s
  have hW := WF_pos hm.1 hf (nb_lt s) (by omega)
  intro D
  induction D with
  | zero =>
    intro a cost done h1 h2 h3 h4 h5 h6
    have ea : a = s.size := by omega
    have ed : (nb s).drop a = [] := List.drop_eq_nil_of_le (by omega)
    rw [ed, SZ_nil, List.append_nil] at h3
    have ew : (WF m fee (nb s) a).2 = 0 := by rw [ea, ← hlen, WF_end]
    rw [ew, Int.add_zero] at h6
    refine Ev.step (f := fun k => gladstonelaw53_SplitNoLess.j2 k s o (m : Int) fee (WF m fee (nb s) 0).2 false) (fun k => ?_) ?_
    · simp only [gladstonelaw53_SplitNoLess.l0]
      rw [show (zl (SZ m fee (nb s))).length = done.length by unfold zl; rw [List.length_map, h3], if_neg (Int.lt_irrefl _), if_pos trivial, if_pos (by rw [ea]), h6, bne_self_eq_false]
    · refine Ev.step (f := fun k => gladstonelaw53_SplitNoLess.l1 k o (m : Int) fee (WF m fee (nb s) 0).2 s 0 0) (fun k => ?_) ?_
      · simp only [gladstonelaw53_SplitNoLess.j2]
        rw [if_neg (by decide)]
      · exact less_l1 hm hf o ho hol _ s.size s 0 0 (Nat.le_refl _) hs (by omega) (Int.le_refl _) (by omega) (by omega)
  | succ D ih =>
    intro a cost done h1 h2 h3 h4 h5 h6
    by_cases hlt : a < s.size
    · have hdl : ((nb s).drop a).length = s.size - a := by rw [List.length_drop, hlen]
      have hne : (nb s).drop a ≠ [] := fun h => by have := congrArg List.length h; rw [hdl, List.length_nil] at this; omega
      obtain ⟨p1, p2, p3, p4⟩ := WF_is (fee := fee) hm.1 (bs := (nb s).drop a) (by omega)
      have hst := SZ_step (fee := fee) hm.1 hne
      rw [WF_drop] at p1 p2 p3 p4 hst
      obtain ⟨p, hp⟩ : ∃ p, (WF m fee (nb s) a).1 = p := ⟨_, rfl⟩
      rw [hp] at p1 p2 p3 p4 hst
      rw [List.drop_drop, WF_drop] at p4
      rw [List.drop_drop] at hst
      rw [hst] at h3
      have hget : rd (zl (SZ m fee (nb s))) (done.length : Int) = (p : Int) := by
        refine rd_some ?_
        unfold zl
        rw [List.getElem?_map, h3, List.getElem?_append_right (Nat.le_refl _), Nat.sub_self]
        rfl
      have hzl : (done.length : Int) < ((zl (SZ m fee (nb s))).length : Int) := by
        unfold zl
        rw [List.length_map, h3, List.length_append, List.length_cons]
        omega
      have hc := cost_bd (bs := ((nb s).drop a).take p) (fee := fee) (take_lt (fun x hx => nb_lt s x (List.mem_of_mem_drop hx)) p) (by rw [List.length_take]; omega) hf
      have hWa := WFB hm.1 hf (nb s) (nb_lt s) (by omega) 0 (a + p)
      rw [if_neg (by omega)] at hWa
      have k1 : s.size - (a + p) ≤ D := by omega
      have k2 : a + p ≤ s.size := by omega
      have k3 : (done ++ [p]).length ≤ a + p := by rw [List.length_append, List.length_singleton]; omega
      have k4 : 0 ≤ cost + costP (((nb s).drop a).take p) fee := by omega
      have k5 : cost + costP (((nb s).drop a).take p) fee + (WF m fee (nb s) (a + p)).2 = (WF m fee (nb s) 0).2 := by omega
      have k6 : cost + costP (((nb s).drop a).take p) fee ≤ 4398046511104 * 240 := by omega
      have k7 : s.size ≤ 4096 := by omega
      have k8 : done.length ≤ 17592186044536 := by omega
      have c1 : ¬ (p : Int) < 1 := by omega
      have c2 : ¬ (p : Int) > (m : Int) := by omega
      have c3 : ¬ (p : Int) > ((s.size - a : Nat) : Int) := by omega
      have c4 : (0 : Int) ≤ (a : Int) := Int.natCast_nonneg _
      have c5 : (a : Int) ≤ ((a + p : Nat) : Int) := by omega
      have c6 : ((a + p : Nat) : Int) ≤ (s.size : Int) := by omega
      have k9 : SZ m fee (nb s) = (done ++ [p]) ++ SZ m fee ((nb s).drop (a + p)) := by rw [h3, List.append_assoc]; rfl
      have e1 := sub_ok (a := a) (b := s.size) h2 k7
      have e2 := add_ok (a := a) (b := p) (c := s.size) k2 k7
      have e3 : wrap64 ((done.length : Int) + 1) = (((done ++ [p]).length : Nat) : Int) := by rw [List.length_append, List.length_singleton]; exact i_ok k8
      have e4 := w_ok k4 k6
      refine Ev.step (f := fun k => (gladstoneref53_Cost.f k (s.extract a (a + p)) fee).bind fun t191 => gladstonelaw53_SplitNoLess.l0 k s o (m : Int) fee (zl (SZ m fee (nb s))) (WF m fee (nb s) 0).2 0 ((a + p : Nat) : Int) (wrap64 (cost + t191)) (((done ++ [p]).length : Nat) : Int)) (fun k => ?_) ?_
      · simp only [gladstonelaw53_SplitNoLess.l0]
        rw [if_pos hzl, if_pos (Int.natCast_nonneg _), hget, if_neg c1, if_neg c2, e1, if_neg c3, if_pos c4, e2, if_pos c5, if_pos c6, Int.toNat_natCast, Int.toNat_natCast, e3]
      · refine Ev.bind (cost_mid s p1 k2 k7 hf) ?_
        simp only [e4]
        exact ih (a + p) _ (done ++ [p]) k1 k2 k9 k3 k4 k5
    · have ea : a = s.size := by omega
      have ed : (nb s).drop a = [] := List.drop_eq_nil_of_le (by omega)
      rw [ed, SZ_nil, List.append_nil] at h3
      have ew : (WF m fee (nb s) a).2 = 0 := by rw [ea, ← hlen, WF_end]
      rw [ew, Int.add_zero] at h6
      refine Ev.step (f := fun k => gladstonelaw53_SplitNoLess.j2 k s o (m : Int) fee (WF m fee (nb s) 0).2 false) (fun k => ?_) ?_
      · simp only [gladstonelaw53_SplitNoLess.l0]
        rw [show (zl (SZ m fee (nb s))).length = done.length by unfold zl; rw [List.length_map, h3], if_neg (Int.lt_irrefl _), if_pos trivial, if_pos (by rw [ea]), h6, bne_self_eq_false]
      · refine Ev.step (f := fun k => gladstonelaw53_SplitNoLess.l1 k o (m : Int) fee (WF m fee (nb s) 0).2 s 0 0) (fun k => ?_) ?_
        · simp only [gladstonelaw53_SplitNoLess.j2]
          rw [if_neg (by decide)]
        · exact less_l1 hm hf o ho hol _ s.size s 0 0 (Nat.le_refl _) hs (by omega) (Int.le_refl _) (by omega) (by omega)
end
theorem SplitNoLess (s : ByteArray) (w0 : s.size ≤ 140737488351232) (a1 a2 : Int) (o : List Int) (hy : o.length * 1 ≤ 140737488351232) (hm2 : ∀ x ∈ o, (Lit.int .u8 x).wf = true) : ∃ k, gladstonelaw53_SplitNoLess.f k s a1 a2 o = some true := by
  apply ev_get
  unfold gladstonelaw53_SplitNoLess.f
  have aw : Ev (fun k => gladstonelaw53_SplitNoLess.j0 k s o a1 a2 true) true := by
    refine Ev.step (f := fun k => (gladstonelaw53_awake.f k).bind fun t => some t) (fun k => ?_) awake_b
    simp only [gladstonelaw53_SplitNoLess.j0]
    rfl
  by_cases hs : (s.size : Int) > 120
  · exact Ev.ifp hs aw
  refine Ev.ifn hs ?_
  simp only [may_f, Option.bind_some]
  cases hm : mayB s.size a1 a2 with
  | false => exact aw
  | true =>
    obtain ⟨h1, h2, h3⟩ := may_ok hm
    obtain ⟨m, hmm⟩ : ∃ m : Nat, a1 = m := ⟨a1.toNat, by omega⟩
    have hl := nb_length s
    have hsp : splitP (nb s) a1 a2 = (zl (SZ m a2 (nb s)), (WF m a2 (nb s) 0).2, 0) := by
      unfold splitP
      rw [hl, hm, if_pos rfl, hmm, Int.toNat_natCast]
      unfold zl SZ WF
      rw [List.drop_zero, hl]
    have ho : ∀ x ∈ o, 0 ≤ x ∧ x ≤ 255 := fun x hx => by
      have := hm2 x hx
      simp [Lit.wf, IntKind.min, IntKind.max, IntKind.bits, IntKind.signed] at this
      omega
    have h0 := less_l0 (m := m) (fee := a2) (by omega) h2 s (by omega) o ho (by omega) [] s.size 0 0 [] (by omega) (Nat.zero_le _) (by rw [List.drop_zero, List.nil_append]) (Nat.le_refl _) (Int.le_refl _) (by rw [Int.zero_add])
    refine Ev.step (f := fun k => gladstonelaw53_SplitNoLess.l0 k s o (m : Int) a2 (zl (SZ m a2 (nb s))) (WF m a2 (nb s) 0).2 0 0 0 0) (fun k => ?_) h0
    simp only [gladstonelaw53_SplitNoLess.j0, Bool.not_true]
    rw [if_neg (by decide)]
    simp only [split_Split.f, Option.bind_some, hsp]
    rw [hmm]
end Go.Proofs.Ytdejkajdlflabaa.Pure
