/- Parts that cost least, plainly: what the document's Cost computes. -/
import Derived.Test.YtdejkajdlflabaaHSp
import Derived.Test.YtdejkajdlflabaaPx6
import Derived.Test.YtdejkajdlflabaaPx3
set_option linter.unusedVariables false
set_option linter.unusedSimpArgs false
set_option linter.unusedSectionVars false
namespace Go.Proofs.Ytdejkajdlflabaa.Pure
open Go.RowKit Go.Proofs.YtdejkajdlflabaaW.PrintWords Go.Proofs.YtdejkajdlflabaaW.PrintMore Go.Proofs.Ytdejkajdlflabaa.Hd Go.Proofs.Ytdejkajdlflabaa.P Go.Proofs.Ytdejkajdlflabaa.Com Go.Proofs.Ytdejkajdlflabaa.Cn
attribute [local irreducible] W spd lgC
def sa : List Nat → Nat
  | [] => 0
  | a :: t => a + sa t
def sw : List Nat → Nat
  | [] => 0
  | a :: t => W a + sw t
theorem sa_app (a b : List Nat) : sa (a ++ b) = sa a + sa b := by
  induction a with
  | nil => simp [sa]
  | cons x t ih => simp only [List.cons_append, sa, ih]; omega
theorem sw_app (a b : List Nat) : sw (a ++ b) = sw a + sw b := by
  induction a with
  | nil => simp [sw]
  | cons x t ih => simp only [List.cons_append, sw, ih]; omega
theorem sa_range (f : Nat → Nat) (n : Nat) : sa ((List.range n).map f) = sumN f n := by
  induction n with
  | zero => rfl
  | succ n ih => rw [List.range_succ, List.map_append, sa_app, ih, sumN]; simp [sa]
theorem sw_range (f : Nat → Nat) (n : Nat) : sw ((List.range n).map f) = sumN (fun j => W (f j)) n := by
  induction n with
  | zero => rfl
  | succ n ih => rw [List.range_succ, List.map_append, sw_app, ih, sumN]; simp [sw]
theorem W_zero : W 0 = 0 := by with_unfolding_all rfl
theorem W_eq (a : Nat) : W a = a * lgC a := by with_unfolding_all rfl
theorem eN_all (A : Nat) (hA : A < 512) (l : List Nat) : ∀ n : Int, 0 ≤ n → n + (sa l : Int) * (A : Int) ≤ 4611686018427387904 → (∀ a ∈ l, a ≤ 67108864 ∧ (1 ≤ a → lgC a ≤ A)) → eN (A : Int) n (l.map (fun x : Nat => (x : Int))) = n + (sa l : Int) * (A : Int) - (sw l : Int) ∧ (sw l : Int) ≤ (sa l : Int) * (A : Int) := by
  induction l with
  | nil => intro n _ _ _; simp [eN, sa, sw]
  | cons a t ih =>
    intro n hn hb hl
    have ha := hl a (List.mem_cons_self ..)
    have hlt : ∀ x ∈ t, x ≤ 67108864 ∧ (1 ≤ x → lgC x ≤ A) := fun x hx => hl x (List.mem_cons_of_mem _ hx)
    have e1 : ((sa (a :: t) : Nat) : Int) * (A : Int) = (a : Int) * (A : Int) + (sa t : Int) * (A : Int) := by
      rw [show sa (a :: t) = a + sa t from rfl, Int.natCast_add, Int.add_mul]
    have e2 : ((sw (a :: t) : Nat) : Int) = (W a : Int) + (sw t : Int) := by rw [show sw (a :: t) = W a + sw t from rfl, Int.natCast_add]
    rw [e1, e2]
    rw [e1] at hb
    have hp : 0 ≤ (sa t : Int) * (A : Int) := Int.mul_nonneg (Int.natCast_nonneg _) (Int.natCast_nonneg _)
    rw [List.map_cons]
    simp only [eN]
    by_cases h0 : a = 0
    · subst h0
      rw [if_neg (by omega)]
      have := ih n hn (by omega) hlt
      rw [W_zero]
      omega
    · have hlg := ha.2 (by omega)
      have hLG := LG_C a (by omega) (by omega)
      have hWa := W_eq a
      have hm : W a ≤ a * A := by rw [hWa]; exact Nat.mul_le_mul_left _ hlg
      have hm2 : a * A ≤ 67108864 * 512 := Nat.mul_le_mul ha.1 (Nat.le_of_lt hA)
      have e3 : (a : Int) * ((A : Int) - (lgC a : Int)) = ((a * A : Nat) : Int) - (W a : Int) := by
        rw [Int.mul_sub, hWa, Int.natCast_mul, Int.natCast_mul]
      have e4 : (a : Int) * (A : Int) = ((a * A : Nat) : Int) := by rw [Int.natCast_mul]
      rw [if_pos (by omega), hLG]
      simp only
      rw [w64 (x := (A : Int) - (lgC a : Int)) (by omega) (by omega), e3, w64 (x := ((a * A : Nat) : Int) - (W a : Int)) (by omega) (by omega), w64 (x := n + (((a * A : Nat) : Int) - (W a : Int))) (by omega) (by omega)]
      have := ih (n + (((a * A : Nat) : Int) - (W a : Int))) (by omega) (by omega) hlt
      omega
theorem eT_all (L : List Int) (l : List Nat) : ∀ s : Nat, s + sa l ≤ 67108864 → eT L (s : Int) (l.map (fun x : Nat => (x : Int))) = (eN (LG ((s + sa l : Nat) : Int)).1 0 L, 0) := by
  induction l with
  | nil => intro s _; rfl
  | cons a t ih =>
    intro s hs
    have e : sa (a :: t) = a + sa t := rfl
    rw [List.map_cons]
    simp only [eT]
    rw [if_neg (by omega), if_neg (by omega), show (s : Int) + (a : Int) = ((s + a : Nat) : Int) from rfl, ih (s + a) (by omega), e, Nat.add_assoc]
/-- How often each byte occurs. -/
def fq (bs : List Nat) : List Nat := (List.range 256).map (fun c => bs.count c)
theorem fq_map (bs : List Nat) : (fq bs).map (fun x : Nat => (x : Int)) = tabn 256 (fun c => (bs.count c : Int)) := by
  unfold fq tabn
  rw [List.map_map]
  rfl
theorem ent_fq (bs : List Nat) (hb : ∀ x ∈ bs, x < 256) (h0 : bs ≠ []) (hl : bs.length ≤ 67108864) : eT (tabn 256 (fun c => (bs.count c : Int))) 0 (tabn 256 (fun c => (bs.count c : Int))) = ((W bs.length : Int) - (spd bs : Int), 0) := by
  have hlen : 0 < bs.length := List.length_pos_iff.2 h0
  have e1 : sa (fq bs) = bs.length := by unfold fq; rw [sa_range]; exact count_sum bs hb
  have e2 : sw (fq bs) = spd bs := by unfold fq; rw [sw_range]; with_unfolding_all rfl
  have hA := lgC_bd bs.length hlen (by omega)
  have h1 := eT_all ((fq bs).map (fun x : Nat => (x : Int))) (fq bs) 0 (by rw [e1]; omega)
  rw [Nat.zero_add, e1, LG_C bs.length hlen (by omega)] at h1
  have hm : bs.length * lgC bs.length ≤ 67108864 * 512 := Nat.mul_le_mul hl (Nat.le_of_lt hA)
  have e3 : (bs.length : Int) * (lgC bs.length : Int) = ((bs.length * lgC bs.length : Nat) : Int) := by rw [Int.natCast_mul]
  have h2 := eN_all (lgC bs.length) hA (fq bs) 0 (by decide) (by rw [e1, e3]; omega) (fun a ha => by
    unfold fq at ha
    obtain ⟨c, _, rfl⟩ := List.mem_map.1 ha
    have hc : bs.count c ≤ bs.length := List.count_le_length
    exact ⟨by omega, fun h => lgC_mono h hc (by omega)⟩)
  rw [fq_map] at h1 h2
  have h3 : eT (tabn 256 (fun c => (bs.count c : Int))) 0 (tabn 256 (fun c => (bs.count c : Int))) = (eN (lgC bs.length : Int) 0 (tabn 256 (fun c => (bs.count c : Int))), 0) := h1
  rw [h3, h2.1, e1, e2, e3, W_eq, Int.zero_add]
theorem rcost_l0 (s : ByteArray) (h0 : nb s ≠ []) (hs : s.size ≤ 4096) (fee : Int) (hf : 0 ≤ fee ∧ fee ≤ 1048576) (d : Nat) : ∀ j, j + d = s.size → Ev (fun k => gladstoneref53_Cost.l0 k s fee (tabn 256 (fun c => (((nb s).take j).count c : Int))) (j : Int)) (costP (nb s) fee) := by
  have hb := nb_lt s
  have hl := nb_length s
  induction d with
  | zero =>
    intro j hj
    have e : (nb s).take j = nb s := List.take_of_length_le (by omega)
    have hc := cost_bd (bs := nb s) (fee := fee) hb (by omega) hf
    rw [e]
    refine Ev.step (f := fun k => (gladstoneref52_Entropy.f k (tabn 256 (fun c => ((nb s).count c : Int)))).bind fun bt144 => some (wrap64 (bt144.1 + fee))) (fun k => ?_) ?_
    · simp only [gladstoneref53_Cost.l0]
      rw [if_neg (by omega)]
    · have he := rent_ev (tabn 256 (fun c => ((nb s).count c : Int))) (by rw [tabn_length]; decide)
      rw [ent_fq (nb s) hb h0 (by omega)] at he
      refine Ev.bind (f := fun _ bt144 => some (wrap64 (bt144.1 + fee))) he ?_
      have ew : wrap64 ((W (nb s).length : Int) - (spd (nb s) : Int) + fee) = costP (nb s) fee := by
        unfold costP at hc ⊢
        exact w64 (by omega) (by omega)
      simp only
      rw [ew]
      exact Ev.now _
  | succ d ih =>
    intro j hj
    have hjs : j < s.size := by omega
    obtain ⟨c, hc⟩ : ∃ c, (nb s).getD j 0 = c := ⟨_, rfl⟩
    have hc256 : c < 256 := by rw [← hc]; exact nb_at s hjs
    have ht := take_nb s hjs
    rw [hc] at ht
    have hcl : ((nb s).take j).count c ≤ j := Nat.le_trans List.count_le_length (by rw [List.length_take]; omega)
    have hbt : bt s (j : Int) = (c : Int) := by rw [bt_nb, hc]
    have hset : (tabn 256 (fun c => (((nb s).take j).count c : Int))).set c (((((nb s).take j).count c : Nat) : Int) + 1) = tabn 256 (fun c => (((nb s).take (j + 1)).count c : Int)) := by
      rw [tabn_set]
      refine tabn_congr (fun x _ => ?_)
      rw [ht, List.count_append, List.count_singleton]
      by_cases e : x = c
      · rw [if_pos e, e]; simp
      · have : (c == x) = false := by simpa using fun h => e h.symm
        rw [if_neg e, this]; simp
    have hrd : rd (tabn 256 (fun c => (((nb s).take j).count c : Int))) (c : Int) = (((nb s).take j).count c : Int) := rd_some (tabn_get hc256)
    refine Ev.step (fun k => ?_) (ih (j + 1) (by omega))
    simp only [gladstoneref53_Cost.l0]
    rw [hbt, tabn_length, if_pos (by omega), if_pos (by omega), if_pos (by omega), if_pos (by omega), hrd, Int.toNat_natCast, w64 (x := (((nb s).take j).count c : Int) + 1) (by omega) (by omega), w64 (x := (j : Int) + 1) (by omega) (by omega), hset]
    rfl
theorem nil_iff (s : ByteArray) : s.toList = [] ↔ nb s = [] := by
  unfold nb
  rw [ByteArray.toList_eq]
  simp
theorem rcost_ev (s : ByteArray) (hs : s.size ≤ 4096) (fee : Int) (hf : 0 ≤ fee ∧ fee ≤ 1048576) : Ev (fun k => gladstoneref53_Cost.f k s fee) (costQ (nb s) fee) := by
  unfold costQ
  by_cases h : nb s = []
  · rw [if_pos h]
    refine Ev.step (f := fun _ => some 0) (fun k => ?_) (Ev.now _)
    unfold gladstoneref53_Cost.f
    rw [if_pos ((nil_iff s).2 h)]
    simp only [gladstoneref53_Cost.j0]
    rfl
  · rw [if_neg h]
    have hl := rcost_l0 s h hs fee hf s.size 0 (by omega)
    have e : tabn 256 (fun c => (((nb s).take 0).count c : Int)) = List.replicate 256 0 := by
      rw [tabn_zero]
      refine tabn_congr (fun x _ => ?_)
      rw [List.take_zero]; simp
    rw [e] at hl
    refine Ev.step (fun k => ?_) hl
    unfold gladstoneref53_Cost.f
    rw [if_neg (fun h' => h ((nil_iff s).1 h'))]
    simp only [gladstoneref53_Cost.j0]
    rw [if_neg (by simp; omega), if_pos (by decide)]
    rfl
theorem pcost (s : ByteArray) (hs : s.size ≤ 4096) (fee : Int) (hf : 0 ≤ fee ∧ fee ≤ 1048576) : split_Cost.f s fee = some (costQ (nb s) fee) := by
  unfold split_Cost.f costQ
  have hl := nb_length s
  by_cases h : nb s = []
  · rw [if_pos h, if_pos (.inl (by rw [h] at hl; exact hl.symm))]
  · have h0 : s.size ≠ 0 := fun e => h (List.eq_nil_of_length_eq_zero (by omega))
    rw [if_neg h, if_neg (by omega), if_pos (by omega)]
end Go.Proofs.Ytdejkajdlflabaa.Pure
