/- The law SplitLeast, plainly. -/
import Derived.Test.YtdejkajdlflabaaPureSp3
import Derived.Test.YtdejkajdlflabaaPx6
import Derived.Test.YtdejkajdlflabaaPx7
set_option linter.unusedVariables false
set_option linter.unusedSimpArgs false
set_option linter.unusedSectionVars false
namespace Go.Proofs.Ytdejkajdlflabaa.Pure
open Go.RowKit Go.Proofs.YtdejkajdlflabaaW.PrintWords Go.Proofs.YtdejkajdlflabaaW.PrintMore Go.Proofs.Ytdejkajdlflabaa.Hd Go.Proofs.Ytdejkajdlflabaa.P Go.Proofs.Ytdejkajdlflabaa.Com Go.Proofs.Ytdejkajdlflabaa.Cn
theorem awake_ev : Ev (fun k => gladstonelaw53_awake.f k) true := Ev.of (fun k => gladstonelaw53_awake.mono k) (k := 12) (by decide +kernel)
attribute [local irreducible] W spd lgC
theorem ints_l0 (l : List Int) (hl : l.length ≤ 17592186044416) (d : Nat) : ∀ i, i + d = l.length → Ev (fun k => gladstoneref08_Ints.l0 k l l (i : Int)) true := by
  induction d with
  | zero =>
    intro i hi
    refine Ev.step (f := fun _ => some true) (fun k => ?_) (Ev.now _)
    simp only [gladstoneref08_Ints.l0]
    rw [if_neg (by omega)]
  | succ d ih =>
    intro i hi
    refine Ev.step (fun k => ?_) (ih (i + 1) (by omega))
    simp only [gladstoneref08_Ints.l0]
    rw [if_pos (by omega), if_pos (by omega), if_pos (by omega), if_pos trivial, w64 (by omega) (by omega)]
    rfl
theorem ints_ev (l : List Int) (hl : l.length ≤ 17592186044416) : Ev (fun k => gladstoneref08_Ints.f k l l) true := by
  unfold gladstoneref08_Ints.f
  exact Ev.ifp rfl (ints_l0 l hl l.length 0 (by omega))
/-- The sizes of the parts. -/
def SZ (m : Nat) (fee : Int) (bs : List Nat) : List Nat := szs bs.length (wayL m fee bs)
section
variable {m : Nat} {fee : Int}
theorem szs_fuel (hm : 1 ≤ m) (k : Nat) : ∀ (k2 : Nat) (bs : List Nat), bs.length ≤ k → bs.length ≤ k2 → szs k (wayL m fee bs) = szs k2 (wayL m fee bs) := by
  induction k with
  | zero =>
    intro k2 bs h _
    have e : bs = [] := List.eq_nil_of_length_eq_zero (by omega)
    subst e
    have a := @szs_end m 0 fee [] 0 (by simp)
    have b := @szs_end m k2 fee [] 0 (by simp)
    rw [List.drop_nil] at a b
    rw [a, b]
  | succ k ih =>
    intro k2 bs h1 h2
    by_cases e : bs.length = 0
    · have e : bs = [] := List.eq_nil_of_length_eq_zero e
      subst e
      have a := @szs_end m (k + 1) fee [] 0 (by simp)
      have b := @szs_end m k2 fee [] 0 (by simp)
      rw [List.drop_nil] at a b
      rw [a, b]
    · obtain ⟨k3, rfl⟩ : ∃ k3, k2 = k3 + 1 := ⟨k2 - 1, by omega⟩
      have a := @szs_step m k fee bs 0 (by omega)
      have b := @szs_step m k3 fee bs 0 (by omega)
      rw [List.drop_zero] at a b
      have hs := sp_size (fee := fee) (m := m) (bs := bs) (i := 0) rfl (by omega) hm
      rw [a, b, wayL_drop bs _ (by omega), ih k3 (bs.drop (WF m fee bs 0).1) (by rw [List.length_drop]; omega) (by rw [List.length_drop]; omega)]
theorem SZ_nil : SZ m fee [] = [] := by unfold SZ; rfl
theorem SZ_step (hm : 1 ≤ m) {bs : List Nat} (h : bs ≠ []) : SZ m fee bs = (WF m fee bs 0).1 :: SZ m fee (bs.drop (WF m fee bs 0).1) := by
  have hl := List.length_pos_iff.2 h
  obtain ⟨k, hk⟩ : ∃ k, bs.length = k + 1 := ⟨bs.length - 1, by omega⟩
  have a := @szs_step m k fee bs 0 (by omega)
  have hs := sp_size (fee := fee) (m := m) (bs := bs) (i := 0) rfl hl hm
  rw [List.drop_zero] at a
  unfold SZ
  rw [hk, a, wayL_drop bs _ (by omega), szs_fuel hm k (bs.drop (WF m fee bs 0).1).length _ (by rw [List.length_drop]; omega) (Nat.le_refl _)]
theorem SZ_len (hm : 1 ≤ m) (k : Nat) : ∀ bs : List Nat, bs.length ≤ k → (SZ m fee bs).length ≤ bs.length := by
  induction k with
  | zero => intro bs h; rw [List.eq_nil_of_length_eq_zero (show bs.length = 0 by omega), SZ_nil]; exact Nat.le_refl _
  | succ k ih =>
    intro bs h
    by_cases e : bs = []
    · rw [e, SZ_nil]; exact Nat.le_refl _
    · have hl := List.length_pos_iff.2 e
      have hs := sp_size (fee := fee) (m := m) (bs := bs) (i := 0) rfl hl hm
      have := ih (bs.drop (WF m fee bs 0).1) (by rw [List.length_drop]; omega)
      rw [SZ_step hm e, List.length_cons]
      rw [List.length_drop] at this
      omega
theorem WF_drop (bs : List Nat) (n : Nat) : WF m fee (bs.drop n) 0 = WF m fee bs n := by unfold WF; rw [List.drop_zero]
theorem cands_succ (n : Nat) (f : Nat → Int) : cands (n + 1) f = (n + 1, f (n + 1)) :: cands n f := by
  unfold cands
  rw [List.range_succ_eq_map, List.map_cons, List.map_map]
  congr 1
  refine List.map_congr_left (fun j _ => ?_)
  show (n + 1 - (j + 1), f (n + 1 - (j + 1))) = (n - j, f (n - j))
  rw [show n + 1 - (j + 1) = n - j by omega]
theorem ext_drop (s : ByteArray) {n : Nat} (h : n ≤ s.size) : nb (s.extract n s.size) = (nb s).drop n := by
  rw [nb_extract]
  exact List.take_of_length_le (by rw [List.length_drop, nb_length]; exact Nat.le_refl _)
theorem ext_take (s : ByteArray) (n : Nat) : nb (s.extract 0 n) = (nb s).take n := by
  rw [nb_extract, List.drop_zero, Nat.sub_zero]
def zl (l : List Nat) : List Int := l.map (fun n : Nat => (n : Int))
theorem best_ev (hm : 1 ≤ m) (hf : 0 ≤ fee ∧ fee ≤ 1048576) (D : Nat) : ∀ s : ByteArray, s.size ≤ D → s.size ≤ 4096 → Ev (fun k => gladstoneref53_Best.f k s (m : Int) fee) (zl (SZ m fee (nb s)), (WF m fee (nb s) 0).2) := by
  induction D with
  | zero =>
    intro s h _
    have e : nb s = [] := List.eq_nil_of_length_eq_zero (by rw [nb_length]; omega)
    refine Ev.step (f := fun _ => some ([], 0)) (fun k => ?_) (by rw [e, SZ_nil]; exact Ev.now _)
    simp only [gladstoneref53_Best.f]
    rw [if_pos ((nil_iff s).2 e)]
  | succ D ih =>
    intro s h hs
    by_cases e : nb s = []
    · refine Ev.step (f := fun _ => some ([], 0)) (fun k => ?_) (by rw [e, SZ_nil]; exact Ev.now _)
      simp only [gladstoneref53_Best.f]
      rw [if_pos ((nil_iff s).2 e)]
    · have hlen := nb_length s
      have hpos : 0 < s.size := by rw [← hlen]; exact List.length_pos_iff.2 e
      have hb := nb_lt s
      obtain ⟨bs, hbs⟩ : ∃ bs, nb s = bs := ⟨_, rfl⟩
      rw [hbs] at hlen hb e ⊢
      obtain ⟨f, hf2⟩ : ∃ f : Nat → Int, f = fun n => costP (bs.take n) fee + (WF m fee bs n).2 := ⟨_, rfl⟩
      have hfb : ∀ n, n ≤ s.size → 0 ≤ f n ∧ f n ≤ 1099511627776 := by
        intro n hn
        have h1 := cost_bd (bs := bs.take n) (fee := fee) (take_lt hb n) (by rw [List.length_take]; omega) hf
        have h2 := WFB hm hf bs hb (by omega) 0 n
        rw [if_neg (by omega)] at h2
        rw [hf2]
        show 0 ≤ costP (bs.take n) fee + (WF m fee bs n).2 ∧ costP (bs.take n) fee + (WF m fee bs n).2 ≤ _
        have h3 := WF_bd hm hf bs hb (by omega) (bs.length - n) n (by omega)
        omega
      have sub : ∀ n, 1 ≤ n → n ≤ s.size → Ev (fun k => gladstoneref53_Best.f k (s.extract n s.size) (m : Int) fee) (zl (SZ m fee (bs.drop n)), (WF m fee bs n).2) := by
        intro n h1 h2
        have hn : nb (s.extract n s.size) = bs.drop n := by rw [ext_drop s h2, hbs]
        have hsz : (s.extract n s.size).size = s.size - n := by rw [← nb_length, hn, List.length_drop, hlen]
        have := ih (s.extract n s.size) (by omega) (by omega)
        rw [hn, WF_drop] at this
        exact this
      have cst : ∀ n, 1 ≤ n → n ≤ s.size → Ev (fun k => gladstoneref53_Cost.f k (s.extract 0 n) fee) (costP (bs.take n) fee) := by
        intro n h1 h2
        have hn : nb (s.extract 0 n) = bs.take n := by rw [ext_take s n, hbs]
        have hsz : (s.extract 0 n).size ≤ 4096 := by rw [← nb_length, hn, List.length_take]; omega
        have := rcost_ev (s.extract 0 n) hsz fee hf
        rw [hn] at this
        unfold costQ at this
        rw [if_neg (fun h => by have h9 := congrArg List.length h; rw [List.length_take, List.length_nil] at h9; omega)] at this
        exact this
      have hzl : ∀ n, (zl (SZ m fee (bs.drop n))).length ≤ 4096 := fun n => by
        unfold zl
        rw [List.length_map]
        have := SZ_len (fee := fee) hm _ (bs.drop n) (Nat.le_refl _)
        rw [List.length_drop] at this
        omega
      have loop : ∀ n, n ≤ s.size → ∀ b : Nat × Int, (0 ≤ b.2) → Ev (fun k => gladstoneref53_Best.l0 k s (m : Int) fee (zl (b.1 :: SZ m fee (bs.drop b.1))) b.2 (n : Int)) (zl ((lst b (cands n f)).1 :: SZ m fee (bs.drop (lst b (cands n f)).1)), (lst b (cands n f)).2) := by
        intro n
        induction n with
        | zero =>
          intro _ b _
          refine Ev.step (f := fun _ => some _) (fun k => ?_) (Ev.now _)
          simp only [gladstoneref53_Best.l0]
          rw [if_neg (by omega)]
          rfl
        | succ n ihn =>
          intro hn b hb0
          have hbn := hfb (n + 1) hn
          have hfn : f (n + 1) = costP (bs.take (n + 1)) fee + (WF m fee bs (n + 1)).2 := by rw [hf2]
          have ew : wrap64 ((WF m fee bs (n + 1)).2 + costP (bs.take (n + 1)) fee) = f (n + 1) := by rw [hfn, Int.add_comm]; rw [hfn] at hbn; exact w64 (by omega) (by omega)
          have ed : wrap64 (((n + 1 : Nat) : Int) - 1) = (n : Int) := by rw [w64 (by omega) (by omega)]; omega
          have hz1 := hzl (n + 1)
          have hlst : lst b (cands (n + 1) f) = lst (if f (n + 1) < b.2 then (n + 1, f (n + 1)) else b) (cands n f) := by rw [cands_succ, lst]
          rw [hlst]
          refine Ev.step (f := fun k => (gladstoneref53_Best.f k (s.extract (n + 1) s.size) (m : Int) fee).bind fun bt146 => (gladstoneref53_Cost.f k (s.extract 0 (n + 1)) fee).bind fun t150 => if wrap64 (bt146.2 + t150) < b.2 then ((some ([((n + 1 : Nat) : Int)] : List Int)).bind fun y157 => if y157.length + bt146.1.length < 17592186044416 then gladstoneref53_Best.l0 k s (m : Int) fee (y157 ++ bt146.1) (wrap64 (bt146.2 + t150)) (n : Int) else none) else gladstoneref53_Best.l0 k s (m : Int) fee (zl (b.1 :: SZ m fee (bs.drop b.1))) b.2 (n : Int)) (fun k => ?_) ?_
          · simp only [gladstoneref53_Best.l0]
            rw [if_pos (by omega), if_pos (by omega), if_pos (by omega), Int.toNat_natCast, ed]
            simp only [if_neg (show ¬ b.2 < 0 by omega)]
          · refine Ev.bind (sub (n + 1) (by omega) hn) (Ev.bind (cst (n + 1) (by omega) hn) ?_)
            simp only [ew]
            by_cases hlt : f (n + 1) < b.2
            · rw [if_pos hlt]
              refine Ev.ifp hlt ?_
              simp only [Option.bind_some]
              refine Ev.ifp (by rw [List.length_singleton]; omega) ?_
              exact ihn (by omega) (n + 1, f (n + 1)) hbn.1
            · rw [if_neg hlt]
              exact Ev.ifn hlt (ihn (by omega) b hb0)
      obtain ⟨z, hz⟩ : ∃ z, min m s.size = z + 1 := ⟨min m s.size - 1, by omega⟩
      have hzs : z + 1 ≤ s.size := by omega
      have hW : WF m fee bs 0 = lst (z + 1, f (z + 1)) (cands z f) := by
        have h1 := WF_step (most := m) (fee := fee) bs (i := 0) (by omega)
        rw [Nat.sub_zero, hlen, hz, List.drop_zero] at h1
        rw [h1]
        have h2 : (fun n => costP (bs.take n) fee + (WF m fee bs (0 + n)).2) = f := by
          rw [hf2]; funext n; rw [Nat.zero_add]
        rw [h2]
        unfold pickP
        rw [cands_succ]
      rw [SZ_step hm e, hW]
      have hbn := hfb (z + 1) hzs
      have hfn : f (z + 1) = costP (bs.take (z + 1)) fee + (WF m fee bs (z + 1)).2 := by rw [hf2]
      have ew : wrap64 ((WF m fee bs (z + 1)).2 + costP (bs.take (z + 1)) fee) = f (z + 1) := by rw [hfn, Int.add_comm]; rw [hfn] at hbn; exact w64 (by omega) (by omega)
      have ed : wrap64 (((z + 1 : Nat) : Int) - 1) = (z : Int) := by rw [w64 (by omega) (by omega)]; omega
      have hz1 := hzl (z + 1)
      have hmn : mn (m : Int) (s.size : Int) = ((z + 1 : Nat) : Int) := by unfold mn; split <;> omega
      refine Ev.step (f := fun k => gladstoneref53_Best.l0 k s (m : Int) fee [] (-1) ((z + 1 : Nat) : Int)) (fun k => ?_) ?_
      · simp only [gladstoneref53_Best.f]
        rw [if_neg (fun h' => e (by rw [← hbs]; exact (nil_iff s).1 h')), hmn]
      · refine Ev.step (f := fun k => (gladstoneref53_Best.f k (s.extract (z + 1) s.size) (m : Int) fee).bind fun bt146 => (gladstoneref53_Cost.f k (s.extract 0 (z + 1)) fee).bind fun t150 => ((some ([((z + 1 : Nat) : Int)] : List Int)).bind fun y157 => if y157.length + bt146.1.length < 17592186044416 then gladstoneref53_Best.l0 k s (m : Int) fee (y157 ++ bt146.1) (wrap64 (bt146.2 + t150)) (z : Int) else none)) (fun k => ?_) ?_
        · simp only [gladstoneref53_Best.l0]
          rw [if_pos (by omega), if_pos (by omega), if_pos (by omega), Int.toNat_natCast, ed]
          simp only [if_pos (show (-1 : Int) < 0 by decide)]
        · refine Ev.bind (sub (z + 1) (by omega) hzs) (Ev.bind (cst (z + 1) (by omega) hzs) ?_)
          simp only [ew, Option.bind_some]
          refine Ev.ifp (by rw [List.length_singleton]; omega) ?_
          exact loop z (by omega) (z + 1, f (z + 1)) hbn.1
end
end Go.Proofs.Ytdejkajdlflabaa.Pure
