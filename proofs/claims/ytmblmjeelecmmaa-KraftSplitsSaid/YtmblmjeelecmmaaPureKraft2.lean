/- The second plain law of chapter 6: lengths that may be, one of which is parted in two. -/
import Derived.Test.YtmblmjeelecmmaaPureKraft
set_option linter.unusedVariables false
set_option linter.unusedSimpArgs false
namespace Go.Proofs.Ytmblmjeelecmmaa.Pure
open Go.RowKit Go.Proofs.YtmblmjeelecmmaaW.PrintWords Go.Proofs.YtmblmjeelecmmaaW.PrintMore Go.Proofs.Ytmblmjeelecmmaa.P Go.Proofs.Ytmblmjeelecmmaa.Com

theorem chk_zero {l : List Int} {n : Int} (h : chk l n = 0) : (1 ≤ n ∧ n ≤ 16) ∧ l.length ≤ 1024 ∧ l.all (okB n) = true ∧ Us l ≠ 0 ∧ (Us l = 1 → Su 1 l = 1) ∧ (Us l ≠ 1 → Su n l = 2 ^ n.toNat) := by
  unfold chk at h
  by_cases h1 : n < 1 ∨ 16 < n
  · rw [if_pos h1] at h; omega
  rw [if_neg h1] at h
  by_cases h2 : 1024 < l.length
  · rw [if_pos h2] at h; omega
  rw [if_neg h2] at h
  by_cases h3 : l.all (fun x => decide (0 ≤ x ∧ x ≤ n)) = false
  · rw [if_pos h3] at h; omega
  rw [if_neg h3] at h
  by_cases h4 : Us l = 0
  · rw [if_pos h4] at h; omega
  rw [if_neg h4] at h
  refine ⟨by omega, by omega, ?_, h4, ?_, ?_⟩
  · show l.all (fun x => decide (0 ≤ x ∧ x ≤ n)) = true
    simpa using h3
  · intro u
    rw [if_pos u] at h
    by_cases s : Su 1 l = 1
    · exact s
    · rw [if_neg s] at h; omega
  · intro u
    rw [if_neg u] at h
    by_cases s : Su n l = 2 ^ n.toNat
    · exact s
    · rw [if_neg s] at h; omega

theorem chk_make {l : List Int} {n : Int} (h1 : 1 ≤ n ∧ n ≤ 16) (h2 : l.length ≤ 1024) (h3 : l.all (okB n) = true) (h4 : Us l ≠ 0) : chk l n = if Us l = 1 then (if Su 1 l = 1 then 0 else 6) else if Su n l = 2 ^ n.toNat then 0 else 6 := by
  unfold chk
  have h3' : l.all (fun x => decide (0 ≤ x ∧ x ≤ n)) = true := h3
  rw [if_neg (by omega), if_neg (by omega), h3', if_neg (by simp), if_neg h4]

theorem wt_up {n x : Int} (h1 : 1 ≤ n) (h2 : n ≤ 15) (hx : x ≤ n) : wt (n + 1) x = 2 * wt n x := by
  unfold wt
  by_cases h : 1 ≤ x
  · rw [if_pos (by omega), if_pos (by omega)]
    have e : (n + 1 - x).toNat = (n - x).toNat + 1 := by omega
    rw [e, Int.pow_succ]
    omega
  · rw [if_neg (by omega), if_neg (by omega)]
    rfl
theorem Su_up (l : List Int) {n : Int} (h1 : 1 ≤ n) (h2 : n ≤ 15) (h : l.all (okB n) = true) : Su (n + 1) l = 2 * Su n l := by
  induction l with
  | nil => rfl
  | cons x t ih =>
    rw [List.all_cons, Bool.and_eq_true] at h
    have hx := h.1
    simp [okB] at hx
    rw [Su_cons, Su_cons, ih h.2, wt_up h1 h2 hx.2]
    omega

theorem chk_up {l : List Int} {n : Int} (h : chk l n = 0) (hn : n < 16) : chk l (n + 1) = 0 := by
  obtain ⟨h1, h2, h3, h4, h5, h6⟩ := chk_zero h
  have h3' : l.all (okB (n + 1)) = true := by
    rw [List.all_eq_true] at h3 ⊢
    intro x hx
    have := h3 x hx
    simp [okB] at this ⊢
    omega
  rw [chk_make (by omega) h2 h3' h4]
  by_cases u : Us l = 1
  · rw [if_pos u, if_pos (h5 u)]
  · rw [if_neg u, Su_up l h1.1 (by omega) h3, h6 u]
    have e : (n + 1).toNat = n.toNat + 1 := by omega
    rw [e, Int.pow_succ, if_pos (by omega)]

theorem Us_set (l : List Int) (x y : Int) : ∀ (i : Nat), l[i]? = some x → Us (l.set i y) = Us l - (if 0 < x then 1 else 0) + (if 0 < y then 1 else 0) := by
  induction l with
  | nil => intro i h; simp at h
  | cons a t ih =>
    intro i h
    cases i with
    | zero =>
      simp at h
      subst h
      rw [List.set_cons_zero, Us_cons, Us_cons]
      omega
    | succ i =>
      simp at h
      rw [List.set_cons_succ, Us_cons, Us_cons, ih i h]
      omega
theorem Su_set (n : Int) (l : List Int) (x y : Int) : ∀ (i : Nat), l[i]? = some x → Su n (l.set i y) = Su n l - wt n x + wt n y := by
  induction l with
  | nil => intro i h; simp at h
  | cons a t ih =>
    intro i h
    cases i with
    | zero =>
      simp at h
      subst h
      rw [List.set_cons_zero, Su_cons, Su_cons]
      omega
    | succ i =>
      simp at h
      rw [List.set_cons_succ, Su_cons, Su_cons, ih i h]
      omega
theorem Us_app (l m : List Int) : Us (l ++ m) = Us l + Us m := by
  induction l with
  | nil => simp [Us_nil]
  | cons a t ih => rw [List.cons_append, Us_cons, Us_cons, ih]; omega
theorem Su_app (n : Int) (l m : List Int) : Su n (l ++ m) = Su n l + Su n m := by
  induction l with
  | nil => simp [Su_nil]
  | cons a t ih => rw [List.cons_append, Su_cons, Su_cons, ih]; omega

/-- One length parted in two. -/
theorem chk_split {l : List Int} {n x : Int} {i : Nat} (h : chk l n = 0) (hl : l.length ≤ 200) (hx : l[i]? = some x) (h0 : x ≠ 0) (hn : x ≠ n) :
    chk (l.set i (x + 1) ++ [x + 1]) n = if Us l = 1 then 6 else 0 := by
  obtain ⟨h1, h2, h3, h4, h5, h6⟩ := chk_zero h
  have hb := List.all_eq_true.1 h3 x (List.mem_of_getElem? hx)
  simp [okB] at hb
  have hu := Us_nonneg l
  have eU : Us (l.set i (x + 1) ++ [x + 1]) = Us l + 1 := by
    rw [Us_app, Us_set l x (x + 1) i hx, Us_cons, Us_nil, if_pos (by omega), if_pos (by omega)]
    omega
  have ew : wt n x = 2 * wt n (x + 1) := by
    unfold wt
    rw [if_pos (by omega), if_pos (by omega)]
    have e : (n - x).toNat = (n - (x + 1)).toNat + 1 := by omega
    rw [e, Int.pow_succ]
    omega
  have eS : Su n (l.set i (x + 1) ++ [x + 1]) = Su n l := by
    rw [Su_app, Su_set n l x (x + 1) i hx, Su_cons, Su_nil]
    omega
  have h3' : (l.set i (x + 1) ++ [x + 1]).all (okB n) = true := by
    rw [List.all_eq_true]
    intro y hy
    rcases List.mem_append.1 hy with hy | hy
    · rcases List.mem_or_eq_of_mem_set hy with hy | rfl
      · exact List.all_eq_true.1 h3 y hy
      · simp [okB]; omega
    · simp at hy
      subst hy
      simp [okB]; omega
  rw [chk_make h1 (by simp; omega) h3' (by omega), if_neg (by omega), eS]
  by_cases u : Us l = 1
  · rw [if_pos u]
    obtain ⟨z, z0, zm, zs⟩ := one_used l u
    have s1 := h5 u
    rw [zs 1] at s1
    have hz := (wt_one z z0).1 s1
    subst hz
    rw [zs n, if_neg]
    unfold wt
    rw [if_pos (by omega), pow_inj _ _ (by omega) (by omega)]
    omega
  · rw [if_neg u, if_pos (h6 u)]

theorem tmod_u8 {a : Int} (h : 0 ≤ a ∧ a ≤ 255) : Int.tmod a 16 = a % 16 := Int.tmod_eq_emod_of_nonneg h.1

theorem KraftSplits : gladstonelaw06_KraftSplits.Pure := by
  intro l a1 a2 _ hl8 hw w1 w2
  have b1 : 0 ≤ a1 ∧ a1 ≤ 255 := by simp [Lit.wf, IntKind.min, IntKind.max, IntKind.bits, IntKind.signed] at w1; omega
  have b2 : 0 ≤ a2 ∧ a2 ≤ 255 := by simp [Lit.wf, IntKind.min, IntKind.max, IntKind.bits, IntKind.signed] at w2; omega
  apply Ev.rounds
  obtain ⟨n, hn⟩ : ∃ n, wrap64 (wrap64 (Int.tmod a1 16) + 1) = n := ⟨_, rfl⟩
  have hnb : 1 ≤ n ∧ n ≤ 16 := by
    rw [tmod_u8 b1, w64 (x := a1 % 16) (by omega) (by omega), w64 (x := a1 % 16 + 1) (by omega) (by omega)] at hn
    omega
  have hll : l.length ≤ 17592186044416 := by omega
  have hyes : ∀ m, Ev (fun k => gladstonelaw06_KraftSplits.j0 k l a2 m true) true := by
    intro m
    refine Ev.step (fun k => ?_) awake_ev'
    simp only [gladstonelaw06_KraftSplits.j0]
    rfl
  unfold gladstonelaw06_KraftSplits.f
  rw [hn]
  by_cases h200 : (l.length : Int) > 200
  · exact Ev.ifp h200 (hyes n)
  refine Ev.ifn h200 (Ev.bind (chk_ev l hll n) ?_)
  by_cases hc : chk l n = 0
  case neg =>
    rw [bne_iff_ne.mpr hc]
    exact hyes n
  rw [bne_eq_false_iff_eq.mpr hc]
  obtain ⟨_, _, c3, c4, _, _⟩ := chk_zero hc
  have hne : l.length ≠ 0 := by
    intro e
    have : l = [] := List.length_eq_zero_iff.1 e
    subst this
    exact c4 rfl
  have hj1 : Ev (fun k => gladstonelaw06_KraftSplits.j1 k l a2 n false) true := by
    obtain ⟨i, hi⟩ : ∃ i : Nat, Int.tmod (wrap64 a2) (l.length : Int) = i ∧ i < l.length := by
      rw [w64 (x := a2) (by omega) (by omega), Int.tmod_eq_emod_of_nonneg b2.1]
      have h1 := Int.emod_nonneg a2 (b := (l.length : Int)) (by omega)
      have h2 := Int.emod_lt_of_pos a2 (b := (l.length : Int)) (by omega)
      exact ⟨(a2 % (l.length : Int)).toNat, by omega, by omega⟩
    obtain ⟨hi1, hi2⟩ := hi
    obtain ⟨x, hx⟩ : ∃ x, l[i]? = some x := ⟨l[i], List.getElem?_eq_getElem hi2⟩
    have hxb := List.all_eq_true.1 c3 x (List.mem_of_getElem? hx)
    simp [okB] at hxb
    have hj2y : Ev (fun k => gladstonelaw06_KraftSplits.j2 k l n (i : Int) true) true := by
      refine Ev.step (fun k => ?_) awake_ev'
      simp only [gladstonelaw06_KraftSplits.j2]
      rfl
    by_cases hx0 : x = 0
    · refine Ev.step (fun k => ?_) hj2y
      simp only [gladstonelaw06_KraftSplits.j1]
      rw [if_neg (by simp), if_neg (by omega), hi1, if_pos (by omega), if_pos (by omega), rd_some hx, if_pos hx0]
    · by_cases hxn : x = n
      · refine Ev.step (fun k => ?_) hj2y
        simp only [gladstonelaw06_KraftSplits.j1]
        rw [if_neg (by simp), if_neg (by omega), hi1, if_pos (by omega), if_pos (by omega), rd_some hx, if_neg hx0, beq_iff_eq.mpr hxn]
      · have hs := chk_split hc (by omega) hx hx0 hxn
        refine Ev.step (f := fun k => gladstonelaw06_KraftSplits.j2 k l n (i : Int) false) (fun k => ?_) ?_
        · simp only [gladstonelaw06_KraftSplits.j1]
          rw [if_neg (by simp), if_neg (by omega), hi1, if_pos (by omega), if_pos (by omega), rd_some hx, if_neg hx0, beq_eq_false_iff_ne.mpr hxn]
        · refine Ev.step (f := fun k => (kraft_Used.f k l).bind fun t183 => (if t183 = 1 then ((kraft_Check.f k (l.set i (x + 1) ++ [x + 1]) n).bind fun t184 => (if t184 = 6 then ((gladstonelaw06_awake.f k).bind fun t185 => (some t185)) else (some false))) else ((kraft_Check.f k (l.set i (x + 1) ++ [x + 1]) n).bind fun t186 => (if t186 = 0 then ((gladstonelaw06_awake.f k).bind fun t187 => (some t187)) else (some false))))) (fun k => ?_) ?_
          · simp only [gladstonelaw06_KraftSplits.j2]
            rw [if_neg (by simp), if_pos (by simp; omega)]
            simp only [List.nil_append, Option.bind_some, List.length_set]
            rw [if_pos (by omega), if_pos (by omega), if_pos (by omega), if_pos (by omega), rd_some hx, w64 (x := x + 1) (by omega) (by omega)]
            rfl
          · refine Ev.bind (used_ev l hll) ?_
            have hll2 : (l.set i (x + 1) ++ [x + 1]).length ≤ 17592186044416 := by simp; omega
            by_cases u : Us l = 1
            · rw [if_pos u] at hs
              exact Ev.ifp u (Ev.bind (chk_ev _ hll2 n) (Ev.ifp hs awake_ev'))
            · rw [if_neg u] at hs
              exact Ev.ifn u (Ev.bind (chk_ev _ hll2 n) (Ev.ifp hs awake_ev'))
  by_cases h16 : n < 16
  · refine Ev.step (f := fun k => (kraft_Check.f k l (n + 1)).bind fun t170 => (gladstonelaw06_KraftSplits.j1 k l a2 n (t170 != 0))) (fun k => ?_) ?_
    · simp only [gladstonelaw06_KraftSplits.j0]
      rw [if_neg (by simp), if_pos h16, w64 (x := n + 1) (by omega) (by omega)]
    · refine Ev.bind (chk_ev l hll (n + 1)) ?_
      rw [chk_up hc h16]
      exact hj1
  · refine Ev.step (fun k => ?_) hj1
    simp only [gladstonelaw06_KraftSplits.j0]
    rw [if_neg (by simp), if_neg h16]
end Go.Proofs.Ytmblmjeelecmmaa.Pure
