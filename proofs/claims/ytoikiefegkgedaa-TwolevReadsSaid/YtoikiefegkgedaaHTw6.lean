/- Codes by two tables, plainly: how many entries there are. -/
import Derived.Test.YtoikiefegkgedaaHTw
import Derived.Test.YtoikiefegkgedaaHCn4
import Derived.Test.YtoikiefegkgedaaPx5
import Derived.Test.YtoikiefegkgedaaHTw4
import Derived.Test.YtoikiefegkgedaaBtRefB
import Derived.Test.YtoikiefegkgedaaPx3
set_option linter.unusedVariables false
set_option linter.unusedSimpArgs false
set_option linter.unusedSectionVars false
namespace Go.Proofs.Ytoikiefegkgedaa.Pure
open Go.RowKit Go.Proofs.YtoikiefegkgedaaW.PrintWords Go.Proofs.YtoikiefegkgedaaW.PrintMore Go.Proofs.Ytoikiefegkgedaa.P Go.Proofs.Ytoikiefegkgedaa.Com Go.Proofs.Ytoikiefegkgedaa.Cn Go.Proofs.Ytoikiefegkgedaa.Hd
attribute [local irreducible] ord pos code mb
theorem nodup_len {l1 : List Nat} : ∀ {l2 : List Nat}, l1.Nodup → (∀ x ∈ l1, x ∈ l2) → l1.length ≤ l2.length := by
  induction l1 with
  | nil => intro l2 _ _; exact Nat.zero_le _
  | cons a t ih =>
    intro l2 hn hs
    rw [List.nodup_cons] at hn
    have ha := hs a (List.mem_cons_self ..)
    have h1 := ih (l2 := l2.erase a) hn.2 (fun x hx => (List.mem_erase_of_ne (fun e => hn.1 (by rw [← e]; exact hx))).2 (hs x (List.mem_cons_of_mem _ hx)))
    rw [List.length_erase_of_mem ha] at h1
    have := List.length_pos_of_mem ha
    rw [List.length_cons]
    omega
section
variable {l : List Int} {root : Nat}
/-- What a longer code begins with. -/
def hd (l : List Int) (root j : Nat) : Nat := code l j / 2 ^ (ln l j - root)
def Gl (l : List Int) (root : Nat) : Nat → List Nat
  | 0 => []
  | p + 1 => if root < ln l (od l p) ∧ hd l root (od l p) ∉ Gl l root p then Gl l root p ++ [hd l root (od l p)] else Gl l root p
theorem hd_lt (h : chk l 16 = 0) {j : Nat} (hj : j < l.length) (hr : root < ln l j) : hd l root j < 2 ^ root := by
  unfold hd
  rw [Nat.div_lt_iff_lt_mul (Nat.two_pow_pos _), ← Nat.pow_add, show root + (ln l j - root) = ln l j by omega]
  exact code_fits h hj
theorem th_hd {j : Nat} (hr : root < ln l j) : tc l j % 2 ^ root = bv (mb (hd l root j) root) := by
  unfold tc hd
  have := mb_add (code l j) root (ln l j - root)
  rw [show root + (ln l j - root) = ln l j by omega] at this
  rw [← bv_take, this, List.take_left' (mb_length _ _)]
theorem phi_inj {a b : Nat} (ha : a < 2 ^ root) (hb : b < 2 ^ root) (h : bv (mb a root) = bv (mb b root)) : a = b := by
  have h1 := bv_inj (by rw [mb_length, mb_length]) h
  rw [mb_nbits, mb_nbits] at h1
  have h2 := congrArg bv (List.reverse_inj.1 h1)
  rw [bv_nbits, bv_nbits, Nat.mod_eq_of_lt ha, Nat.mod_eq_of_lt hb] at h2
  exact h2
theorem Gl_nodup (m : Nat) : (Gl l root m).Nodup := by
  induction m with
  | zero => simp [Gl]
  | succ m ih =>
    rw [Gl]
    split
    · rename_i h
      rw [List.nodup_append]
      refine ⟨ih, by simp, fun a ha b hb => ?_⟩
      rw [List.mem_singleton.1 hb]
      exact fun e => h.2 (e ▸ ha)
    · exact ih
theorem mem_Gl (m h : Nat) : h ∈ Gl l root m ↔ ∃ p, p < m ∧ root < ln l (od l p) ∧ hd l root (od l p) = h := by
  induction m with
  | zero => simp [Gl]
  | succ m ih =>
    rw [Gl]
    constructor
    · intro hh
      split at hh
      · rename_i hc
        rcases List.mem_append.1 hh with h1 | h1
        · obtain ⟨j, a, b, c⟩ := ih.1 h1
          exact ⟨j, by omega, b, c⟩
        · exact ⟨m, by omega, hc.1, (List.mem_singleton.1 h1).symm⟩
      · obtain ⟨j, a, b, c⟩ := ih.1 hh
        exact ⟨j, by omega, b, c⟩
    · rintro ⟨j, a, b, c⟩
      by_cases e : j = m
      · subst e
        split
        · rw [← c]; simp
        · rename_i hc
          by_cases hm : hd l root (od l j) ∈ Gl l root j
          · rw [← c]; exact hm
          · exact absurd ⟨b, hm⟩ hc
      · have := ih.2 ⟨j, by omega, b, c⟩
        split
        · exact List.mem_append_left _ this
        · exact this
theorem Gl_Hl (h : chk l 16 = 0) : (Gl l root (ord l).length).length = (Hl l root l.length).length := by
  have hl := (chk_len h).2
  apply Nat.le_antisymm
  · have hn : ((Gl l root (ord l).length).map (fun a => bv (mb a root))).Nodup := by
      unfold List.Nodup
      rw [List.pairwise_map]
      refine List.Pairwise.imp_of_mem ?_ (Gl_nodup (l := l) (root := root) (ord l).length)
      intro a b ha hb hab e
      obtain ⟨p, hp, hr, rfl⟩ := (mem_Gl _ _).1 ha
      obtain ⟨p2, hp2, hr2, rfl⟩ := (mem_Gl _ _).1 hb
      exact hab (phi_inj (hd_lt h (od_mem hp).1 hr) (hd_lt h (od_mem hp2).1 hr2) e)
    have := nodup_len (l2 := Hl l root l.length) hn (fun x hx => by
      obtain ⟨a, ha, rfl⟩ := List.mem_map.1 hx
      obtain ⟨p, hp, hr, rfl⟩ := (mem_Gl _ _).1 ha
      exact (mem_Hl _ _).2 ⟨od l p, (od_mem hp).1, hr, th_hd hr⟩)
    rwa [List.length_map] at this
  · have := nodup_len (l2 := (Gl l root (ord l).length).map (fun a => bv (mb a root))) (Hl_nodup (l := l) (root := root) l.length) (fun x hx => by
      obtain ⟨j, hj, hr, rfl⟩ := (mem_Hl _ _).1 hx
      have h0 : 0 < l.getD j 0 := by have := (ln16 hl hj).2; omega
      have hp := od_pos hl hj h0
      refine List.mem_map.2 ⟨hd l root j, (mem_Gl _ _).2 ⟨pos l j, hp.1, by rw [hp.2]; exact hr, by rw [hp.2]⟩, (th_hd hr).symm⟩)
    rwa [List.length_map] at this
/-- Along the order the beginnings rise. -/
theorem hd_mono (h : chk l 16 = 0) {p p2 : Nat} (hp : p < p2) (hp2 : p2 < (ord l).length) (hr : root < ln l (od l p)) : ln l (od l p) ≤ ln l (od l p2) ∧ hd l root (od l p) ≤ hd l root (od l p2) := by
  have hl := (chk_len h).2
  obtain ⟨a1, a2, a3⟩ := od_mem (show p < (ord l).length by omega)
  obtain ⟨b1, b2, b3⟩ := od_mem hp2
  have ea := pos_od hl (show p < (ord l).length by omega)
  have eb := pos_od hl hp2
  obtain ⟨i, hi⟩ : ∃ i, od l p = i := ⟨_, rfl⟩
  obtain ⟨k, hk⟩ : ∃ k, od l p2 = k := ⟨_, rfl⟩
  rw [hi] at a1 a2 a3 ea hr ⊢
  rw [hk] at b1 b2 b3 eb ⊢
  have ri := rank_lt a1 a2
  have rk := rank_lt b1 b2
  have pi : pos l i = S (cn l) (ln l i) + rank l i := by with_unfolding_all rfl
  have pk : pos l k = S (cn l) (ln l k) + rank l k := by with_unfolding_all rfl
  have hle : ln l i ≤ ln l k := by
    apply Nat.le_of_not_lt
    intro hlt
    have := S_step (c := cn l) hlt
    omega
  refine ⟨hle, ?_⟩
  unfold hd
  have ci := code_in a1 a2
  have ck := code_in b1 b2
  by_cases e : ln l i = ln l k
  · rw [e]
    apply Nat.div_le_div_right
    rw [code_pos a2, code_pos b2, e]
    rw [pi, e] at ea
    rw [pk] at eb
    omega
  · have h1 := F_ge (cn l) (show ln l i < ln l k by omega)
    have h2 : code l i ≤ code l k / 2 ^ (ln l k - ln l i) := by
      rw [Nat.le_div_iff_mul_le (Nat.two_pow_pos _)]
      refine Nat.le_trans (Nat.mul_le_mul_right _ (Nat.le_of_lt ci.2)) (Nat.le_trans h1 ck.1)
    have h3 : code l k / 2 ^ (ln l k - root) = code l k / 2 ^ (ln l k - ln l i) / 2 ^ (ln l i - root) := by
      rw [Nat.div_div_eq_div_mul, ← Nat.pow_add]
      congr 2
      omega
    rw [h3]
    exact Nat.div_le_div_right h2
theorem Gl_len (m : Nat) : (Gl l root m).length ≤ m := by
  induction m with
  | zero => simp [Gl]
  | succ m ih =>
    rw [Gl]
    split
    · rw [List.length_append, List.length_singleton]; omega
    · omega
theorem shl_at : ∀ n : Nat, n ≤ 16 → shl .i64 1 (n : Int) = ((2 ^ n : Nat) : Int) := by decide
theorem add_w {R g P : Nat} (hR : R ≤ 32768) (hP : P ≤ 32768) (hg : g ≤ 17408) : wrap64 (((R + g * P : Nat) : Int) + (P : Int)) = ((R + (g + 1) * P : Nat) : Int) := by
  have h := Nat.mul_le_mul hg hP
  rw [Nat.add_mul, Nat.one_mul]
  obtain ⟨X, hX⟩ : ∃ X, g * P = X := ⟨_, rfl⟩
  rw [hX] at h ⊢
  rw [w64 (by omega) (by omega)]
  omega
theorem sub_w {a b : Nat} (ha : a ≤ 100000) (hb : b ≤ a) : IntKind.u64.wrap (wrap64 ((a : Int) - (b : Int))) = ((a - b : Nat) : Int) := by
  rw [w64 (by omega) (by omega), wu64 (by omega) (by omega)]; omega
theorem inc_w {p : Nat} (h : p ≤ 100000) : wrap64 ((p : Int) + 1) = ((p + 1 : Nat) : Int) := by rw [w64 (by omega) (by omega)]; omega
theorem size_l0 (h : chk l 16 = 0) {rs R P m : Nat} (hr : 1 ≤ root) (hrs : root + rs = m) (hm : m ≤ 15) (hP2 : shl .i64 1 (rs : Int) = (P : Int)) (hR : R ≤ 32768) (hP : P ≤ 32768) (hol : (ord l).length ≤ 17408) (d : Nat) : ∀ p (last : Int), p + d = (ord l).length → ((Gl l root p = [] ∧ last = -1) ∨ ∃ p0, p0 < p ∧ root < ln l (od l p0) ∧ last = (hd l root (od l p0) : Int) ∧ ∀ x ∈ Gl l root p, x ≤ hd l root (od l p0)) →
    Ev (fun k => gladstonelaw11_size.l0 k l (root : Int) (m : Int) (codesL l) ((R + (Gl l root p).length * P : Nat) : Int) last (OL l) (p : Int)) ((R + (Gl l root (ord l).length).length * P : Nat) : Int) := by
  have hl := (chk_len h).2
  induction d with
  | zero =>
    intro p last hp _
    have e : p = (ord l).length := by omega
    subst e
    refine Ev.step (f := fun _ => some _) (fun k => ?_) (Ev.now _)
    simp only [gladstonelaw11_size.l0]
    rw [OL_length, if_neg (Int.lt_irrefl _)]
  | succ d ih =>
    intro p last hp hinv
    have hpl : p < (ord l).length := by omega
    obtain ⟨m1, m2, m3⟩ := od_mem hpl
    have hG := Gl_len (l := l) (root := root) p
    have hp100 : p ≤ 100000 := by omega
    have hpd : p + 1 + d = (ord l).length := by omega
    by_cases hs : ln l (od l p) ≤ root
    · have hs' : ¬ root < ln l (od l p) := Nat.not_lt.2 hs
      have hG1 : Gl l root (p + 1) = Gl l root p := by rw [Gl, if_neg (fun e => hs' e.1)]
      have hih := ih (p + 1) last hpd (by
        rw [hG1]
        rcases hinv with h1 | ⟨p0, h1, h2⟩
        · exact .inl h1
        · exact .inr ⟨p0, Nat.lt_succ_of_lt h1, h2⟩)
      rw [hG1] at hih
      refine Ev.step (fun k => ?_) hih
      have hlr := l_rd hl m1
      have hor : rd (OL l) (p : Int) = (od l p : Int) := OL_rd rfl hpl
      have hcr := codes_rd m1
      have ew := inc_w hp100
      have c1 : (p : Int) < ((ord l).length : Int) := Int.ofNat_lt.2 hpl
      have c2 : (0 : Int) ≤ (p : Int) := Int.natCast_nonneg _
      have c3 : (0 : Int) ≤ (od l p : Int) := Int.natCast_nonneg _
      have c4 : (od l p : Int) < (l.length : Int) := Int.ofNat_lt.2 m1
      simp only [gladstonelaw11_size.l0]
      rw [OL_length, if_pos c1, if_pos c2, hor, if_pos c3, if_pos c4, hlr, if_pos (Int.ofNat_le.2 hs), ew]
    · have hl16 : ln l (od l p) ≤ 100000 := by omega
      have hlr0 : root ≤ ln l (od l p) := by omega
      have hl64 : ln l (od l p) - root ≤ 64 := by omega
      have hm1 : m ≤ 100000 := by omega
      have hm2 : root ≤ m := by omega
      have hm3 : m - root = rs := by omega
      have hg17 : (Gl l root p).length ≤ 17408 := by omega
      by_cases he : (hd l root (od l p) : Int) = last
      · have hin : hd l root (od l p) ∈ Gl l root p := by
          rcases hinv with ⟨_, h2⟩ | ⟨p0, h1, h2, h3, _⟩
          · omega
          · exact (mem_Gl _ _).2 ⟨p0, h1, h2, by omega⟩
        have hG1 : Gl l root (p + 1) = Gl l root p := by rw [Gl, if_neg (fun e => e.2 hin)]
        have hih := ih (p + 1) last hpd (by
          rw [hG1]
          rcases hinv with h1 | ⟨p0, h1, h2⟩
          · exact .inl h1
          · exact .inr ⟨p0, Nat.lt_succ_of_lt h1, h2⟩)
        rw [hG1] at hih
        refine Ev.step (fun k => ?_) hih
        have hlr := l_rd hl m1
        have hor : rd (OL l) (p : Int) = (od l p : Int) := OL_rd rfl hpl
        have hcr := codes_rd m1
        have ew := inc_w hp100
        have c1 : (p : Int) < ((ord l).length : Int) := Int.ofNat_lt.2 hpl
        have c2 : (0 : Int) ≤ (p : Int) := Int.natCast_nonneg _
        have c3 : (0 : Int) ≤ (od l p : Int) := Int.natCast_nonneg _
        have c4 : (od l p : Int) < (l.length : Int) := Int.ofNat_lt.2 m1
        have e1 := sub_w (a := ln l (od l p)) (b := root) hl16 hlr0
        have e2 : IntKind.u64.wrap (wrap64 ((m : Int) - (root : Int))) = (rs : Int) := (sub_w (a := m) (b := root) hm1 hm2).trans (congrArg (fun n : Nat => (n : Int)) hm3)
        have e3 : shr .i64 (code l (od l p) : Int) ((ln l (od l p) - root : Nat) : Int) = (hd l root (od l p) : Int) := shr_nat64 _ _ hl64
        have c5 : ¬ (ln l (od l p) : Int) ≤ (root : Int) := fun e => hs (Int.ofNat_le.1 e)
        have c6 : (0 : Int) ≤ ((ln l (od l p) - root : Nat) : Int) := Int.natCast_nonneg _
        have c7 : (0 : Int) ≤ (rs : Int) := Int.natCast_nonneg _
        simp only [gladstonelaw11_size.l0]
        rw [OL_length, if_pos c1, if_pos c2, hor, if_pos c3, if_pos c4, hlr, if_neg c5, codes_len, if_pos c4, e1, if_pos c6, hcr, e3, if_pos he, ew]
      · have hle : ∀ x ∈ Gl l root p, x ≤ hd l root (od l p) := by
          intro x hx
          rcases hinv with ⟨h1, _⟩ | ⟨p0, h1, h2, h3, h4⟩
          · rw [h1] at hx; simp at hx
          · exact Nat.le_trans (h4 x hx) (hd_mono h h1 hpl h2).2
        have hnin : hd l root (od l p) ∉ Gl l root p := by
          intro hx
          rcases hinv with ⟨h1, _⟩ | ⟨p0, h1, h2, h3, h4⟩
          · rw [h1] at hx; simp at hx
          · have := h4 _ hx
            have := (hd_mono h h1 hpl h2).2
            omega
        have hG1 : Gl l root (p + 1) = Gl l root p ++ [hd l root (od l p)] := by rw [Gl, if_pos ⟨Nat.lt_of_not_le hs, hnin⟩]
        have hih := ih (p + 1) (hd l root (od l p) : Int) hpd (.inr ⟨p, Nat.lt_succ_self p, Nat.lt_of_not_le hs, rfl, fun x hx => by
          rw [hG1] at hx
          rcases List.mem_append.1 hx with h1 | h1
          · exact hle x h1
          · rw [List.mem_singleton.1 h1]; exact Nat.le_refl _⟩)
        have e4 := add_w (g := (Gl l root p).length) hR hP hg17
        have e5 : (Gl l root p).length + 1 = (Gl l root (p + 1)).length := by rw [hG1, List.length_append, List.length_singleton]
        rw [e5] at e4
        refine Ev.step (fun k => ?_) hih
        have hlr := l_rd hl m1
        have hor : rd (OL l) (p : Int) = (od l p : Int) := OL_rd rfl hpl
        have hcr := codes_rd m1
        have ew := inc_w hp100
        have c1 : (p : Int) < ((ord l).length : Int) := Int.ofNat_lt.2 hpl
        have c2 : (0 : Int) ≤ (p : Int) := Int.natCast_nonneg _
        have c3 : (0 : Int) ≤ (od l p : Int) := Int.natCast_nonneg _
        have c4 : (od l p : Int) < (l.length : Int) := Int.ofNat_lt.2 m1
        have e1 := sub_w (a := ln l (od l p)) (b := root) hl16 hlr0
        have e2 : IntKind.u64.wrap (wrap64 ((m : Int) - (root : Int))) = (rs : Int) := (sub_w (a := m) (b := root) hm1 hm2).trans (congrArg (fun n : Nat => (n : Int)) hm3)
        have e3 : shr .i64 (code l (od l p) : Int) ((ln l (od l p) - root : Nat) : Int) = (hd l root (od l p) : Int) := shr_nat64 _ _ hl64
        have c5 : ¬ (ln l (od l p) : Int) ≤ (root : Int) := fun e => hs (Int.ofNat_le.1 e)
        have c6 : (0 : Int) ≤ ((ln l (od l p) - root : Nat) : Int) := Int.natCast_nonneg _
        have c7 : (0 : Int) ≤ (rs : Int) := Int.natCast_nonneg _
        simp only [gladstonelaw11_size.l0]
        rw [OL_length, if_pos c1, if_pos c2, hor, if_pos c3, if_pos c4, hlr, if_neg c5, codes_len, if_pos c4, e1, if_pos c6, hcr, e3, if_neg he, e2, if_pos c7, hP2, e4, ew]
theorem size_ev (h : chk l 16 = 0) {rs R P m : Nat} (hr : 1 ≤ root) (hrs : root + rs = m) (hm : m ≤ 15) (hR2 : 2 ^ root = R) (hP2 : 2 ^ rs = P) : Ev (fun k => gladstonelaw11_size.f k l (root : Int) (m : Int)) ((R + (Hl l root l.length).length * P : Nat) : Int) := by
  have hn := (chk_len h).1
  have hR : R ≤ 32768 := by rw [← hR2]; exact Nat.pow_le_pow_right (n := 2) (by decide) (show root ≤ 15 by omega)
  have hP : P ≤ 32768 := by rw [← hP2]; exact Nat.pow_le_pow_right (n := 2) (by decide) (show rs ≤ 15 by omega)
  have hsR : shl .i64 1 (root : Int) = (R : Int) := by rw [← hR2]; exact shl_at root (by omega)
  have hsP : shl .i64 1 (rs : Int) = (P : Int) := by rw [← hP2]; exact shl_at rs (by omega)
  have e1 : IntKind.u64.wrap (root : Int) = (root : Int) := wu64 (by omega) (by omega)
  clear hR2 hP2
  rw [← Gl_Hl h]
  refine Ev.bind (f := fun k bt => if 0 ≤ IntKind.u64.wrap (root : Int) then ((gladstoneref08_Order.f k l).bind fun t => gladstonelaw11_size.l0 k l (root : Int) (m : Int) bt.1 (shl .i64 1 (IntKind.u64.wrap (root : Int))) (-1) t 0) else none) (rcodes_ev l (by omega)) ?_
  have hc : codesP l = (codesL l, 0) := if_pos h
  rw [hc, e1]
  refine Ev.ifp (Int.natCast_nonneg _) ?_
  have ho := rorder_ev l (by omega)
  rw [if_pos h] at ho
  refine Ev.bind (f := fun k t => gladstonelaw11_size.l0 k l (root : Int) (m : Int) (codesL l) (shl .i64 1 (root : Int)) (-1) t 0) ho ?_
  rw [hsR]
  have h2 := size_l0 h hr hrs hm hsP hR hP (ord_le l hn) (ord l).length 0 (-1) (by omega) (.inl ⟨rfl, rfl⟩)
  rw [show Gl l root 0 = [] from rfl, List.length_nil, Nat.zero_mul, Nat.add_zero] at h2
  exact h2
end
end Go.Proofs.Ytoikiefegkgedaa.Pure
/- The law TwolevReads, walked by hand. -/
namespace Go.Proofs.Ytoikiefegkgedaa.P
open Go Go.RowKit Go.Deep Go.Proofs.YtoikiefegkgedaaW.PrintWords Go.Proofs.YtoikiefegkgedaaW.PrintLast Go.Proofs.YtoikiefegkgedaaW.PrintMore Go.Proofs.Ytoikiefegkgedaa.Hw Go.Proofs.Ytoikiefegkgedaa.Com Go.Proofs.Ytoikiefegkgedaa.Cn Go.Proofs.Ytoikiefegkgedaa.Pure Go.Proofs.Ytoikiefegkgedaa.Hd
attribute [local go_sem] max2_int min2_int max_two min_two max_three min_three max_four min_four
def gladstonelaw11_TwolevReads.f (_ : Nat) (_ : List Int) (_ _ : Int) (_ : ByteArray) : Option Bool := some true
theorem errors_ev (l : List Int) (hl : l.length ≤ 17592186044416) (m : Int) : Ev (fun k => gladstonelaw10_Errors.f k l m) (errN l m) := by
  unfold errN
  by_cases h1 : m < 1
  · rw [if_pos (.inl h1)]
    refine Ev.congr (f := fun _ => some 1) (fun k => ?_) (Ev.now _)
    unfold gladstonelaw10_Errors.f
    rw [if_pos h1]
  · by_cases h2 : 15 < m
    · rw [if_pos (.inr h2)]
      refine Ev.congr (f := fun _ => some 1) (fun k => ?_) (Ev.now _)
      unfold gladstonelaw10_Errors.f
      rw [if_neg h1, if_pos h2]
    · rw [if_neg (by omega)]
      refine Ev.congr (f := fun k => (gladstoneref06_Check.f k l m).bind fun t => some t) (fun k => ?_) (Ev.bind (rchk_ev l hl m) (Ev.now _))
      unfold gladstonelaw10_Errors.f
      rw [if_neg h1, if_neg h2]
theorem Decode_at (k : Nat) (A0 : Option Addr) (n0 c0 : Nat) (A1 : Option Addr) (n1 c1 : Nat) (l0 : List Int) (l1 : List Bool) (r1 r2 r3 : Int) (w : World) (e0 : l0.length = n0) (e1 : l1.length = n1) (hr0 : Kd.C (Kd.int .i64) w A0 n0 l0) (hc0 : n0 ≤ c0) (hr1 : Kd.C Kd.bool w A1 n1 l1) (hc1 : n1 ≤ c1) (h : gladstoneref09_Decode.f k l0 l1 = some (r1, r2, r3)) :
    Calls Try.prog 12 #[.slice A0 n0 c0, .slice A1 n1 c1] w fun e w' => e = .returned (.tuple #[.int .i64 r1, .int .i64 r2, .int .i64 r3]) ∧ Below w.heap.size w w' := by
  subst e0; subst e1
  exact gladstoneref09_Decode.calls k A0 c0 l0 A1 c1 l1 r1 r2 r3 w hr0 hc0 hr1 hc1 h
theorem Ref_new (s : ByteArray) (B : List Nat) (w : World) (hB : nb s = B) (hs : s.size ≤ 1099511627776) :
    Calls Try.prog 9 #[.string s] w fun e w' => ∃ (A : Option Addr) (c : Nat), e = .returned (.agg #[.slice A (8 * B.length) c, .int .i64 ((0 : Nat) : Int)]) ∧ 8 * B.length ≤ c ∧ Kd.R Kd.bool 4 w' w.heap.size (fun _ => True) (.slice A (8 * B.length) c) (bb B) ∧ Below w.heap.size w w' := by
  obtain ⟨k, hk⟩ := ev_get (bits_ev s hs)
  have hk2 : gladstoneref02_New.f k s = some (bb B, 0) := by
    unfold gladstoneref02_New.f
    rw [hk, hB]
    rfl
  refine (gladstoneref02_New.calls k s _ _ w hk2).mono ?_
  rintro e w' ⟨v, rfl, hR, hb⟩
  obtain ⟨A, c, rfl, hl, hC⟩ := Kd.R_reads hR
  rw [bb_length] at hl hR
  rw [bb_length]
  exact ⟨A, c, rfl, hl, hR, hb⟩
/-- Between the steps. -/
structure RS (wb : World) (g b cap N : Nat) (ro re : Int) (f : Nat → Ent) (gr : Nat) (B : List Nat) (A : Option Addr) (n c gx : Nat) (q p : Nat) (W : World) : Prop where
  t : TwS W g b cap N ro re f
  i : IsS57 wb W gr (zs B) (q : Int)
  bl : Below wb.heap.size wb W
  x : W.heap[gx]? = some (.cells #[.slice A n c, .int .i64 (p : Int)] 34 (0, 0))
  gb : wb.heap.size ≤ gx
  r : Kd.R Kd.bool 4 W 0 (fun k => k ≠ gr ∧ k ≠ gx) (.slice A n c) (bb B)
section
variable {wb W W1 : World} {g b cap N gr n c gx q p q' p' : Nat} {ro re : Int} {f : Nat → Ent} {B : List Nat} {A : Option Addr}
theorem RS.below (h : RS wb g b cap N ro re f gr B A n c gx q p W) (hb : Below W.heap.size W W1) : RS wb g b cap N ro re f gr B A n c gx q p W1 :=
  ⟨h.t.below hb, h.i.below hb, below_step h.bl hb, blk_below h.x hb, h.gb, Kd.R_below h.r hb⟩
theorem RS.next (h : RS wb g b cap N ro re f gr B A n c gx q p W) (hI : IsS57 wb W1 gr (zs B) (q' : Int)) (hB : Below wb.heap.size wb W1) (hK : KeepBut W W1 gr none) : RS wb g b cap N ro re f gr B A n c gx q' p W1 :=
  ⟨tw_keep h.t h.i hK, hI, hB, KeepBut.blk hK h.x (fun e => h.i.ne_blk h.x (by decide) e.symm) (by simp), h.gb, Kd.R_step h.r (fun k hk hlt => hK.2 k hlt hk.1 (by simp))⟩
theorem RS.setAt (h : RS wb g b cap N ro re f gr B A n c gx q p W) : RS wb g b cap N ro re f gr B A n c gx q p' (W.setCell ⟨gx, 1, none⟩ (.int .i64 (p' : Int))) :=
  ⟨⟨blk_far (p := ⟨gx, 1, none⟩) h.t.1 (blk_ne h.t.1 h.x (by decide)) _, h.t.2.same (Below.heap_setCell W ⟨gx, 1, none⟩ _ b (by obtain ⟨C, hC⟩ := h.t.2.ty; exact blk_ne hC h.x (by decide)))⟩, h.i.far (p := ⟨gx, 1, none⟩) (h.i.ne_blk h.x (by decide)) _, below_set h.bl h.gb, blk_put h.x 1 _ (by simp), h.gb,
    Kd.R_far h.r (p := ⟨gx, 1, none⟩) (fun k hk => hk.2) _⟩
end
theorem cut_bools {A : Option Addr} {n c q : Nat} {L : List Bool} (hl : L.length = n) (hq : q ≤ n) (hc : n ≤ c) : ∃ A' : Option Addr, (∀ W, (Instr.slice 32 (.slice A n c) (some (.int .i64 (q : Int))) none none).run Try.prog W = .ok (.slice A' (n - q) (c - q)) W) ∧
    (∀ W, Kd.C Kd.bool W A n L → Kd.C Kd.bool W A' (n - q) (L.drop q)) := by
  subst hl
  obtain ⟨i, hi, hz⟩ : ∃ i, Try.prog.info? 4 = some i ∧ i.size = 1 := by
    have h : (Try.prog.info? 4).map (·.size) = some 1 := by kernel_rfl
    obtain ⟨i, hi, hz⟩ := Option.map_eq_some_iff.1 h
    exact ⟨i, hi, hz⟩
  refine ⟨if c = q then A else A.map (·.add (q * 1)), fun W => ?_, fun W h => ?_⟩
  · exact cut_from (P := Try.prog) 32 4 .i64 Try.underlying32 hi 1 hz A L.length c (q : Int) (by omega) (by omega) W
  · have := Kd.C_drop (m := q) (c := c) h hq hc
    rw [List.length_drop] at this
    exact this
theorem alloc_var {P : Program} {ops : Array Oper} {rest : List Oper} {o : Oper} {a : Act} {Q : Exit → Act → World → Prop} {W : World} (hgd : o.guard = none) {t : TypeId} {z : Value} {size bytes : Nat} {cs : Array Value} (ho : o.op = .alloc t) (hinfo : (P.info? t).map (fun i => (i.zero, i.size, i.bytes)) = some (some z, size, bytes)) (hc : z.cells = cs)
    (h : ∀ g w1, Aside0 (g = W.heap.size) → Aside0 (w1.heap[g]? = some (.cells cs t (0, 0))) → Aside0 (Below W.heap.size W w1) → wpList P ops Q rest (a.put o.dst (.pointer (some ⟨g, 0, none⟩))) w1) : wpList P ops Q (o :: rest) a W :=
  alloc_event hgd ho hinfo hc (h _ _ ⟨rfl⟩ ⟨blk_new W _⟩ ⟨below_alloc (Below.refl _ _) _⟩)
theorem store_var {P : Program} {ops : Array Oper} {rest : List Oper} {o : Oper} {a : Act} {Q : Exit → Act → World → Prop} {W : World} (hgd : o.guard = none) (ty : TypeId) (x y : Operand) (ho : o.op = .store ty x y) (g : Nat) (cells old : Array Value) (hx : a.eval x = .pointer (some ⟨g, 0, none⟩)) (hy : a.eval y = .agg cells) (hg : W.heap[g]? = some (.cells old ty (0, 0)))
    (hi : (P.info? ty).map (·.size) = some cells.size) (hl : old.size = cells.size) (h1 : cells.all (·.oneCell') = true)
    (h : ∀ w1, Aside0 (w1.heap[g]? = some (.cells cells ty (0, 0))) → Aside0 (W.grownBy w1 (some g)) → wpList P ops Q rest (a.put o.dst undef) w1) : wpList P ops Q (o :: rest) a W :=
  wpList_store_row hgd ty x y ho g cells hx hy ty old hg hi hl h1 (h _ ⟨setRow_heap W g _ _ ty _ hg⟩ ⟨grown_row W g _⟩)
theorem rs_start {wb w3 w4 w5 w6 : World} {g b cap N gr gx c : Nat} {ro re : Int} {f : Nat → Ent} {B : List Nat} {A : Option Addr} (hT : TwS w4 g b cap N ro re f) (hI : IsS57 wb w4 gr (zs B) ((0 : Nat) : Int)) (hL : Below wb.heap.size wb w4)
    (hR : Kd.R Kd.bool 4 w4 w3.heap.size (fun _ => True) (.slice A (8 * B.length) c) (bb B)) (h3 : gr < w3.heap.size) (hg : gx = w4.heap.size) (h5 : Below w4.heap.size w4 w5)
    (hX : w6.heap[gx]? = some (.cells #[.slice A (8 * B.length) c, .int .i64 ((0 : Nat) : Int)] 34 (0, 0))) (hE : w5.grownBy w6 (some gx)) : RS wb g b cap N ro re f gr B A (8 * B.length) c gx 0 0 w6 := by
  have k46 : Below w4.heap.size w4 w6 := below_grown h5 hE (by omega) h5.size
  refine ⟨hT.below k46, hI.below k46, below_step hL k46, hX, by have := hL.size; omega, ?_⟩
  refine Kd.R_below (w := w4) ?_ k46
  refine Kd.R_lower (base := w3.heap.size) (Kd.R_mono (Kd.R_bound hR) ?_) (Nat.zero_le _)
  intro k hk
  exact ⟨by have := hk.2.1; omega, by have := hk.2.2.1; omega⟩
theorem infoR : (Try.prog.info? 34).map (fun i => (i.zero, i.size, i.bytes)) = some (some (.agg #[.slice none 0 0, .int .i64 0]), 2, 32) := by kernel_rfl
theorem sizeR : (Try.prog.info? 34).map (·.size) = some 2 := by kernel_rfl
set_option maxHeartbeats 16000000 in
set_option maxRecDepth 100000 in
theorem TwolevReads_walk (A0 : Option Addr) (c0 : Nat) (l0 : List Int) (ro m : Int) (s : ByteArray) (w : World) (hr0 : Kd.C (Kd.int .i64) w A0 l0.length l0) (hc0 : l0.length ≤ c0) :
    Calls Try.prog 3 #[.slice A0 l0.length c0, .agg #[.int .i64 ro, .int .i64 m], .string s] w fun e w' => e = .returned (.bool true) ∧ Below w.heap.size w w' := by
  have HR := Aside0.mk hr0
  have HC := Aside0.mk hc0
  clear hr0 hc0
  by_cases h1 : 200 < l0.length
  · have t1 : decide (200 < l0.length) = true := decide_eq_true h1
    have t2 : decide (200 < (l0.length : Int)) = true := decide_eq_true (by omega)
    clear h1
    go_enter Try.func3, Try.ntmps3
    go_wp2_with (first
      | ((with_reducible refine gate_dst (N := 4) rfl ?_); refine box_event ?hg (N := 4) ?hd (cs := #[.int .i64 ro, .int .i64 m]) (t := 23) ?hr ?_; (case hd => rfl); (case hg => rfl); (case hr => first | (go_simp; done) | (go_simp; rfl)); intro g4 hg4 w0b hx4 hB4; have hcx0 := (blk_cell hx4 0).trans (rfl : _ = some (Value.int .i64 ro)); have hcx1 := (blk_cell hx4 1).trans (rfl : _ = some (Value.int .i64 m)); have B0 := Aside0.mk hB4; clear hx4 hg4 hB4))
    go_quiet (fail)
    obtain ⟨w0, hw0⟩ : ∃ w0, w0b.drewN nq = w0 := ⟨_, rfl⟩
    have B0b := Aside0.mk (below_step B0.out (pw_below_drewN (Below.refl w0b.heap.size w0b) nq))
    rw [hw0] at B0b
    rw [hw0]
    clear hw0 hcx0 hcx1 B0
    have HR0 := Aside0.mk (Kd.C_below HR.out B0b.out)
    go_wp2_with (first
      | (go_at_call 5; refine (awake11_calls _).mono ?_; rintro e w1 ⟨rfl, hB⟩; have B1 := Aside0.mk (below_step B0b.out hB); clear hB))
    go_ret
    exact ⟨rfl, B1.out⟩
  have t1 : decide (200 < l0.length) = false := decide_eq_false h1
  have t2 : decide (200 < (l0.length : Int)) = false := decide_eq_false (by omega)
  by_cases h2 : 60 < s.size
  · have t3 : decide (60 < s.size) = true := decide_eq_true h2
    have t4 : decide (60 < (s.size : Int)) = true := decide_eq_true (by omega)
    clear h1 h2
    go_enter Try.func3, Try.ntmps3
    go_wp2_with (first
      | ((with_reducible refine gate_dst (N := 4) rfl ?_); refine box_event ?hg (N := 4) ?hd (cs := #[.int .i64 ro, .int .i64 m]) (t := 23) ?hr ?_; (case hd => rfl); (case hg => rfl); (case hr => first | (go_simp; done) | (go_simp; rfl)); intro g4 hg4 w0b hx4 hB4; have hcx0 := (blk_cell hx4 0).trans (rfl : _ = some (Value.int .i64 ro)); have hcx1 := (blk_cell hx4 1).trans (rfl : _ = some (Value.int .i64 m)); have B0 := Aside0.mk hB4; clear hx4 hg4 hB4))
    go_quiet (fail)
    obtain ⟨w0, hw0⟩ : ∃ w0, w0b.drewN nq = w0 := ⟨_, rfl⟩
    have B0b := Aside0.mk (below_step B0.out (pw_below_drewN (Below.refl w0b.heap.size w0b) nq))
    rw [hw0] at B0b
    rw [hw0]
    clear hw0 hcx0 hcx1 B0
    have HR0 := Aside0.mk (Kd.C_below HR.out B0b.out)
    go_wp2_with (first
      | (go_at_call 5; refine (awake11_calls _).mono ?_; rintro e w1 ⟨rfl, hB⟩; have B1 := Aside0.mk (below_step B0b.out hB); clear hB))
    go_ret
    exact ⟨rfl, B1.out⟩
  have t3 : decide (60 < s.size) = false := decide_eq_false h2
  have t4 : decide (60 < (s.size : Int)) = false := decide_eq_false (by omega)
  have HL := Aside0.mk (show l0.length ≤ 17592186044416 by omega)
  have HS := Aside0.mk (show s.size ≤ 60 by omega)
  clear h1 h2
  obtain ⟨ke, hke⟩ := ev_get (errors_ev l0 HL.out m)
  have KE := Aside0.mk hke
  clear hke
  by_cases g1 : m < 1
  · obtain ⟨te, hte⟩ : ∃ te, errN l0 m = te := ⟨_, rfl⟩
    rw [hte] at KE
    obtain rfl : te = 1 := hte.symm.trans (if_pos (.inl g1))
    obtain ⟨t, ht⟩ : ∃ t : Int, t = 1 := ⟨_, rfl⟩
    have HT := Aside0.mk (show errT l0 ro m = 1 ∧ (1 : Int) ≠ 0 from ⟨if_pos (.inl g1), by decide⟩)
    have u1 : decide (1 ≤ m) = false := decide_eq_false (by omega)
    clear hte ht g1
    go_enter Try.func3, Try.ntmps3
    go_wp2_with (first
      | ((with_reducible refine gate_dst (N := 4) rfl ?_); refine box_event ?hg (N := 4) ?hd (cs := #[.int .i64 ro, .int .i64 m]) (t := 23) ?hr ?_; (case hd => rfl); (case hg => rfl); (case hr => first | (go_simp; done) | (go_simp; rfl)); intro g4 hg4 w0b hx4 hB4; have hcx0 := (blk_cell hx4 0).trans (rfl : _ = some (Value.int .i64 ro)); have hcx1 := (blk_cell hx4 1).trans (rfl : _ = some (Value.int .i64 m)); have B0 := Aside0.mk hB4; clear hx4 hg4 hB4))
    go_quiet (fail)
    obtain ⟨w0, hw0⟩ : ∃ w0, w0b.drewN nq = w0 := ⟨_, rfl⟩
    have B0b := Aside0.mk (below_step B0.out (pw_below_drewN (Below.refl w0b.heap.size w0b) nq))
    rw [hw0] at B0b
    rw [hw0]
    clear hw0 hcx0 hcx1 B0
    have HR0 := Aside0.mk (Kd.C_below HR.out B0b.out)
    go_wp2_with (first
      | (go_at_call 6; (with_reducible refine (TwNew_err _ _ _ l0 ro m 1 w0 rfl HR0.out HC.out HL.out HT.out.1 HT.out.2).mono ?_); rintro e w1 ⟨rfl, hB⟩; have B1 := Aside0.mk (below_step B0b.out hB); clear hB)
      | (go_at_call 7; (with_reducible refine (gladstonelaw10_Errors.calls ke _ _ l0 m 1 w1 (Kd.C_below HR.out B1.out) HC.out KE.out).mono ?_); rintro e w2 ⟨rfl, hd⟩; have B2 := Aside0.mk (below_step B1.out hd.below); clear hd)
      | (go_at_call 5; refine (awake11_calls _).mono ?_; rintro e w3 ⟨rfl, hB⟩; have B3 := Aside0.mk (below_step B2.out hB); clear hB))
    go_ret
    exact ⟨rfl, B3.out⟩
  have u1 : decide (1 ≤ m) = true := decide_eq_true (by omega)
  by_cases g2 : 15 < m
  · obtain ⟨te, hte⟩ : ∃ te, errN l0 m = te := ⟨_, rfl⟩
    rw [hte] at KE
    obtain rfl : te = 1 := hte.symm.trans (if_pos (.inr g2))
    have HT := Aside0.mk (show errT l0 ro m = 1 ∧ (1 : Int) ≠ 0 from ⟨if_pos (.inr (.inl g2)), by decide⟩)
    have u2 : decide (m ≤ 15) = false := decide_eq_false (by omega)
    clear hte g1 g2
    go_enter Try.func3, Try.ntmps3
    go_wp2_with (first
      | ((with_reducible refine gate_dst (N := 4) rfl ?_); refine box_event ?hg (N := 4) ?hd (cs := #[.int .i64 ro, .int .i64 m]) (t := 23) ?hr ?_; (case hd => rfl); (case hg => rfl); (case hr => first | (go_simp; done) | (go_simp; rfl)); intro g4 hg4 w0b hx4 hB4; have hcx0 := (blk_cell hx4 0).trans (rfl : _ = some (Value.int .i64 ro)); have hcx1 := (blk_cell hx4 1).trans (rfl : _ = some (Value.int .i64 m)); have B0 := Aside0.mk hB4; clear hx4 hg4 hB4))
    go_quiet (fail)
    obtain ⟨w0, hw0⟩ : ∃ w0, w0b.drewN nq = w0 := ⟨_, rfl⟩
    have B0b := Aside0.mk (below_step B0.out (pw_below_drewN (Below.refl w0b.heap.size w0b) nq))
    rw [hw0] at B0b
    rw [hw0]
    clear hw0 hcx0 hcx1 B0
    have HR0 := Aside0.mk (Kd.C_below HR.out B0b.out)
    go_wp2_with (first
      | (go_at_call 6; (with_reducible refine (TwNew_err _ _ _ l0 ro m 1 w0 rfl HR0.out HC.out HL.out HT.out.1 HT.out.2).mono ?_); rintro e w1 ⟨rfl, hB⟩; have B1 := Aside0.mk (below_step B0b.out hB); clear hB)
      | (go_at_call 7; (with_reducible refine (gladstonelaw10_Errors.calls ke _ _ l0 m 1 w1 (Kd.C_below HR.out B1.out) HC.out KE.out).mono ?_); rintro e w2 ⟨rfl, hd⟩; have B2 := Aside0.mk (below_step B1.out hd.below); clear hd)
      | (go_at_call 5; refine (awake11_calls _).mono ?_; rintro e w3 ⟨rfl, hB⟩; have B3 := Aside0.mk (below_step B2.out hB); clear hB))
    go_ret
    exact ⟨rfl, B3.out⟩
  have u2 : decide (m ≤ 15) = true := decide_eq_true (by omega)
  by_cases g3 : ro < 1
  · obtain ⟨te, hte⟩ : ∃ te, errN l0 m = te := ⟨_, rfl⟩
    rw [hte] at KE
    have HT := Aside0.mk (show errT l0 ro m = 1 ∧ (1 : Int) ≠ 0 from ⟨if_pos (.inr (.inr (.inl g3))), by decide⟩)
    have u3 : decide (ro < 1) = true := decide_eq_true g3
    clear hte g1 g2 g3
    go_enter Try.func3, Try.ntmps3
    go_wp2_with (first
      | ((with_reducible refine gate_dst (N := 4) rfl ?_); refine box_event ?hg (N := 4) ?hd (cs := #[.int .i64 ro, .int .i64 m]) (t := 23) ?hr ?_; (case hd => rfl); (case hg => rfl); (case hr => first | (go_simp; done) | (go_simp; rfl)); intro g4 hg4 w0b hx4 hB4; have hcx0 := (blk_cell hx4 0).trans (rfl : _ = some (Value.int .i64 ro)); have hcx1 := (blk_cell hx4 1).trans (rfl : _ = some (Value.int .i64 m)); have B0 := Aside0.mk hB4; clear hx4 hg4 hB4))
    go_quiet (fail)
    obtain ⟨w0, hw0⟩ : ∃ w0, w0b.drewN nq = w0 := ⟨_, rfl⟩
    have B0b := Aside0.mk (below_step B0.out (pw_below_drewN (Below.refl w0b.heap.size w0b) nq))
    rw [hw0] at B0b
    rw [hw0]
    clear hw0 hcx0 hcx1 B0
    have HR0 := Aside0.mk (Kd.C_below HR.out B0b.out)
    go_wp2_with (first
      | (go_at_call 6; (with_reducible refine (TwNew_err _ _ _ l0 ro m 1 w0 rfl HR0.out HC.out HL.out HT.out.1 HT.out.2).mono ?_); rintro e w1 ⟨rfl, hB⟩; have B1 := Aside0.mk (below_step B0b.out hB); clear hB)
      | (go_at_call 7; (with_reducible refine (gladstonelaw10_Errors.calls ke _ _ l0 m te w1 (Kd.C_below HR.out B1.out) HC.out KE.out).mono ?_); rintro e w2 ⟨rfl, hd⟩; have B2 := Aside0.mk (below_step B1.out hd.below); clear hd)
      | (go_at_call 5; refine (awake11_calls _).mono ?_; rintro e w3 ⟨rfl, hB⟩; have B3 := Aside0.mk (below_step B2.out hB); clear hB))
    go_ret
    exact ⟨rfl, B3.out⟩
  have u3 : decide (ro < 1) = false := decide_eq_false g3
  by_cases g4 : m < ro
  · obtain ⟨te, hte⟩ : ∃ te, errN l0 m = te := ⟨_, rfl⟩
    rw [hte] at KE
    have HT := Aside0.mk (show errT l0 ro m = 1 ∧ (1 : Int) ≠ 0 from ⟨if_pos (.inr (.inr (.inr g4))), by decide⟩)
    have u4 : decide (m < ro) = true := decide_eq_true g4
    clear hte g1 g2 g3 g4
    go_enter Try.func3, Try.ntmps3
    go_wp2_with (first
      | ((with_reducible refine gate_dst (N := 4) rfl ?_); refine box_event ?hg (N := 4) ?hd (cs := #[.int .i64 ro, .int .i64 m]) (t := 23) ?hr ?_; (case hd => rfl); (case hg => rfl); (case hr => first | (go_simp; done) | (go_simp; rfl)); intro g4 hg4 w0b hx4 hB4; have hcx0 := (blk_cell hx4 0).trans (rfl : _ = some (Value.int .i64 ro)); have hcx1 := (blk_cell hx4 1).trans (rfl : _ = some (Value.int .i64 m)); have B0 := Aside0.mk hB4; clear hx4 hg4 hB4))
    go_quiet (fail)
    obtain ⟨w0, hw0⟩ : ∃ w0, w0b.drewN nq = w0 := ⟨_, rfl⟩
    have B0b := Aside0.mk (below_step B0.out (pw_below_drewN (Below.refl w0b.heap.size w0b) nq))
    rw [hw0] at B0b
    rw [hw0]
    clear hw0 hcx0 hcx1 B0
    have HR0 := Aside0.mk (Kd.C_below HR.out B0b.out)
    go_wp2_with (first
      | (go_at_call 6; (with_reducible refine (TwNew_err _ _ _ l0 ro m 1 w0 rfl HR0.out HC.out HL.out HT.out.1 HT.out.2).mono ?_); rintro e w1 ⟨rfl, hB⟩; have B1 := Aside0.mk (below_step B0b.out hB); clear hB)
      | (go_at_call 7; (with_reducible refine (gladstonelaw10_Errors.calls ke _ _ l0 m te w1 (Kd.C_below HR.out B1.out) HC.out KE.out).mono ?_); rintro e w2 ⟨rfl, hd⟩; have B2 := Aside0.mk (below_step B1.out hd.below); clear hd)
      | (go_at_call 5; refine (awake11_calls _).mono ?_; rintro e w3 ⟨rfl, hB⟩; have B3 := Aside0.mk (below_step B2.out hB); clear hB))
    go_ret
    exact ⟨rfl, B3.out⟩
  have u4 : decide (m < ro) = false := decide_eq_false g4
  have hee : errT l0 ro m = chk l0 m := if_neg (by omega)
  have hen : errN l0 m = chk l0 m := if_neg (by omega)
  by_cases he : chk l0 m = 0
  case neg =>
    obtain ⟨t, ht⟩ : ∃ t, chk l0 m = t := ⟨_, rfl⟩
    rw [ht] at he hee hen
    rw [hen] at KE
    have HT := Aside0.mk (And.intro hee he)
    have t5 : (t != 0) = true := by simpa using he
    have t6 : (t == t) = true := by simp
    clear g1 g2 g3 g4 hee hen ht he
    go_enter Try.func3, Try.ntmps3
    go_wp2_with (first
      | ((with_reducible refine gate_dst (N := 4) rfl ?_); refine box_event ?hg (N := 4) ?hd (cs := #[.int .i64 ro, .int .i64 m]) (t := 23) ?hr ?_; (case hd => rfl); (case hg => rfl); (case hr => first | (go_simp; done) | (go_simp; rfl)); intro g4 hg4 w0b hx4 hB4; have hcx0 := (blk_cell hx4 0).trans (rfl : _ = some (Value.int .i64 ro)); have hcx1 := (blk_cell hx4 1).trans (rfl : _ = some (Value.int .i64 m)); have B0 := Aside0.mk hB4; clear hx4 hg4 hB4))
    go_quiet (fail)
    obtain ⟨w0, hw0⟩ : ∃ w0, w0b.drewN nq = w0 := ⟨_, rfl⟩
    have B0b := Aside0.mk (below_step B0.out (pw_below_drewN (Below.refl w0b.heap.size w0b) nq))
    rw [hw0] at B0b
    rw [hw0]
    clear hw0 hcx0 hcx1 B0
    have HR0 := Aside0.mk (Kd.C_below HR.out B0b.out)
    go_wp2_with (first
      | (go_at_call 6; (with_reducible refine (TwNew_err _ _ _ l0 ro m t w0 rfl HR0.out HC.out HL.out HT.out.1 HT.out.2).mono ?_); rintro e w1 ⟨rfl, hB⟩; have B1 := Aside0.mk (below_step B0b.out hB); clear hB)
      | (go_at_call 7; (with_reducible refine (gladstonelaw10_Errors.calls ke _ _ l0 m t w1 (Kd.C_below HR.out B1.out) HC.out KE.out).mono ?_); rintro e w2 ⟨rfl, hd⟩; have B2 := Aside0.mk (below_step B1.out hd.below); clear hd)
      | (go_at_call 5; refine (awake11_calls _).mono ?_; rintro e w3 ⟨rfl, hB⟩; have B3 := Aside0.mk (below_step B2.out hB); clear hB))
    go_ret
    exact ⟨rfl, B3.out⟩
  rw [hen, he] at KE
  rw [he] at hee
  obtain ⟨r, hr⟩ : ∃ r : Nat, ro = r := ⟨ro.toNat, by omega⟩
  obtain ⟨rs, hrs⟩ : ∃ rs : Nat, m = ((r + rs : Nat) : Int) := ⟨(m - ro).toNat, by omega⟩
  obtain ⟨R, hR⟩ : ∃ R, 2 ^ r = R := ⟨_, rfl⟩
  obtain ⟨P, hP⟩ : ∃ P, 2 ^ rs = P := ⟨_, rfl⟩
  obtain ⟨N, hN⟩ : ∃ N, R + (Hl l0 r l0.length).length * P = N := ⟨_, rfl⟩
  have hck := he
  have HE := Aside0.mk hee
  have HM := Aside0.mk (And.intro hR (And.intro hP (And.intro hN (show 1 ≤ r ∧ r + rs ≤ 15 by omega))))
  have HI := Aside0.mk (show ro.toNat = r ∧ (m - ro).toNat = rs ∧ m - ro = (rs : Int) ∧ ro = (r : Int) from by omega)
  have HMM := Aside0.mk hrs
  have HRO := Aside0.mk hr
  obtain ⟨B, hB⟩ : ∃ B, nb s = B := ⟨_, rfl⟩
  have HB := Aside0.mk hB
  have hB256 : ∀ x ∈ B, x < 256 := by rw [← hB]; exact nb_lt s
  have hBl : B.length ≤ 60 := by rw [← hB, nb_length]; exact HS.out
  have HBB := Aside0.mk (And.intro hB256 hBl)
  have HCK := Aside0.mk hck
  obtain ⟨kz, hkz⟩ := ev_get (size_ev (root := r) (rs := rs) (R := R) (P := P) (m := r + rs) (chk_lim hck).2.2.1 HM.out.2.2.2.1 rfl HM.out.2.2.2.2 hR hP)
  rw [hN, ← hrs, ← hr] at hkz
  have KZ := Aside0.mk hkz
  clear g1 g2 g3 g4 hee hen he hck hR hP hN hB hB256 hBl hkz hr hrs
  go_enter Try.func3, Try.ntmps3
  go_wp2_with (first
    | ((with_reducible refine gate_dst (N := 4) rfl ?_); refine box_event ?hg (N := 4) ?hd (cs := #[.int .i64 ro, .int .i64 m]) (t := 23) ?hr ?_; (case hd => rfl); (case hg => rfl); (case hr => first | (go_simp; done) | (go_simp; rfl)); intro g4 hg4 w0b hx4 hB4; have hcx0 := (blk_cell hx4 0).trans (rfl : _ = some (Value.int .i64 ro)); have hcx1 := (blk_cell hx4 1).trans (rfl : _ = some (Value.int .i64 m)); have B0 := Aside0.mk hB4; clear hx4 hg4 hB4))
  go_quiet (fail)
  obtain ⟨w0, hw0⟩ : ∃ w0, w0b.drewN nq = w0 := ⟨_, rfl⟩
  have B0b := Aside0.mk (below_step B0.out (pw_below_drewN (Below.refl w0b.heap.size w0b) nq))
  rw [hw0] at B0b
  rw [hw0]
  clear hw0 hcx0 hcx1 B0
  have HR0 := Aside0.mk (Kd.C_below HR.out B0b.out)
  go_wp2_with (first
    | (go_at_call 6; (with_reducible refine (TwNew_ok _ _ _ l0 ro m r rs R P N w0 rfl HR0.out HC.out HL.out HE.out HI.out.1 HI.out.2.1 HI.out.2.2.1 HI.out.2.2.2 HM.out.1 HM.out.2.1 HM.out.2.2.1).mono ?_); rintro e w1 ⟨g, b, cap, rfl, hT, hB⟩; have T1 := Aside0.mk hT; have B1 := Aside0.mk (below_step B0b.out hB); clear hT hB)
    | (go_at_call 7; (with_reducible refine (gladstonelaw10_Errors.calls ke _ _ l0 m 0 w1 (Kd.C_below HR.out B1.out) HC.out KE.out).mono ?_); rintro e w2 ⟨rfl, hd⟩; have T2 := Aside0.mk (T1.out.below hd.below); have B2 := Aside0.mk (below_step B1.out hd.below); clear hd)
    | (go_at_call 8; (with_reducible refine (Reader_new s B w2 HB.out (by have := HS.out; omega)).mono ?_); rintro e w3 ⟨gr, wb, rfl, hI, hL, hB, hW⟩; have T3 := Aside0.mk (T2.out.below hB); have I3 := Aside0.mk hI; have L3 := Aside0.mk hL; have BW := Aside0.mk (below_step B2.out hW); clear hI hL hB hW)
    | (go_at_call 9; (with_reducible refine (Ref_new s B w3 HB.out (by have := HS.out; omega)).mono ?_); rintro e w4 ⟨A, c, rfl, hc, hR, hB⟩; have T4 := Aside0.mk (T3.out.below hB); have I4 := Aside0.mk (I3.out.below hB); have L4 := Aside0.mk (below_step L3.out hB); have R4 := Aside0.mk hR; have HCc := Aside0.mk hc; clear hR hB hc)
    | ((with_reducible refine gate_dst (N := 13) rfl ?_); refine alloc_var rfl rfl infoR rfl ?_; intro gx w5 G5 X5 B5)
    | ((with_reducible refine gate_store (t := 34) (p := 13) rfl ?_); refine store_var rfl 34 (.tmp 13) (.tmp 73) rfl gx #[.slice A (8 * B.length) c, .int .i64 ((0 : Nat) : Int)] _ rfl rfl X5.out sizeR rfl (by simp [Value.oneCell']) ?_; intro w6 X6 E6; have R6 := Aside0.mk (rs_start T4.out I4.out L4.out R4.out (Nat.lt_of_lt_of_le I3.out.lt (Nat.le_refl _)) G5.out B5.out X6.out E6.out); clear T4 I4 L4 R4 X5 X6 E6 G5 B5)
    | (go_at_call 10; (with_reducible refine (Size_at w6 R6.out.t).mono ?_); rintro e w7 ⟨rfl, hd⟩; have R7 := Aside0.mk (R6.out.below hd.below); clear hd)
    | (go_at_call 11; (with_reducible refine (gladstonelaw11_size.calls kz _ _ l0 ro m (N : Int) w7 (Kd.C_below HR.out (rebase_join BW.out R7.out.bl)) HC.out KZ.out).mono ?_); rintro e w7b ⟨rfl, hB⟩; have R7b := Aside0.mk (R7.out.below hB); clear hB))
  clear T1 T2 T3 I3 L3 B1 B2 R6 R7
  go_loopg [14] 40 (fun qq v14 w' => ∃ (i : Int) (q : Nat), v14 = .int .i64 i ∧ Aside0 (i + qq = 40 ∧ 0 ≤ i ∧ q ≤ 8 * B.length) ∧ Aside0 (RS wb g b cap N (r : Int) (rs : Int) (al l0 r R P l0.length) gr B A (8 * B.length) c gx q q w'))
  case atStart => exact ⟨0, 0, rfl, ⟨by omega, by omega, by omega⟩, R7b⟩
  case round =>
    clear R7b
    obtain ⟨i, q, rfl, HQ, R'⟩ := hrel
    cases gk with
    | zero =>
      have v1 : decide (i < 40) = false := decide_eq_false (by have := HQ.out; omega)
      have BE := Aside0.mk (rebase_join BW.out R'.out.bl)
      go_wp2_with (first
        | (go_at_call 5; refine (awake11_calls _).mono ?_; rintro e w8 ⟨rfl, hB⟩; have B8 := Aside0.mk (below_step BE.out hB); clear hB))
      go_ret
      exact ⟨rfl, B8.out⟩
    | succ qq =>
      have v1 : decide (i < 40) = true := decide_eq_true (by have := HQ.out; omega)
      obtain ⟨nn, hn1, hn2⟩ := dec_nat HCK.out HBB.out.1 q
      obtain ⟨r1, hr1⟩ : ∃ r1, (decP l0 ((bb B).drop q)).1 = r1 := ⟨_, rfl⟩
      obtain ⟨r3, hr3⟩ : ∃ r3, (decP l0 ((bb B).drop q)).2.2 = r3 := ⟨_, rfl⟩
      have HD := Aside0.mk (show decP l0 ((bb B).drop q) = (r1, (nn : Int), r3) by rw [← hn1, ← hr1, ← hr3])
      obtain ⟨kd, hkd⟩ := ev_get (rdecode_ev l0 HL.out ((bb B).drop q) (by rw [List.length_drop, bb_length]; have := HBB.out.2; omega))
      rw [HD.out] at hkd
      have KD := Aside0.mk hkd
      have HQN := Aside0.mk (show q + nn ≤ 8 * B.length by have := HQ.out; omega)
      obtain ⟨A', hcut, hCC⟩ := cut_bools (A := A) (bb_length B) HQ.out.2.2 HCc.out
      have CC := Aside0.mk (hCC wr (by have h := (Kd.R_reads' R'.out.r).2.2; rw [bb_length] at h; exact h))
      have CL := Aside0.mk (show (((bb B).drop q).length = 8 * B.length - q) ∧ 8 * B.length - q ≤ c - q by rw [List.length_drop, bb_length]; have := HCc.out; exact ⟨rfl, by omega⟩)
      have hx0 := (blk_cell R'.out.x 0).trans (rfl : _ = some (Value.slice A (8 * B.length) c))
      have hx1 := (blk_cell R'.out.x 1).trans (rfl : _ = some (Value.int .i64 (q : Int)))
      have ew : wrap64 ((q : Int) + (nn : Int)) = ((q + nn : Nat) : Int) := by rw [w64 (by omega) (by have := HQN.out; have := HBB.out.2; omega)]; omega
      have BWR := Aside0.mk (rebase_join BW.out R'.out.bl)
      clear hn1 hn2 hr1 hr3 hkd hCC
      go_wp2_with (first
        | (go_at_call 12; (with_reducible refine (Decode_at kd _ _ _ _ _ _ l0 ((bb B).drop q) r1 (nn : Int) r3 wr rfl CL.out.1 (Kd.C_below HR.out BWR.out) HC.out CC.out CL.out.2 KD.out).mono ?_); rintro e w8 ⟨rfl, hB⟩; have R8 := Aside0.mk (R'.out.below hB); have hy0 := (blk_cell R8.out.x 1).trans (rfl : _ = some (Value.int .i64 (q : Int))); have hyf := blk_frozen R8.out.x 1; clear hB)
        | (go_at_call 13; have R8b := Aside0.mk (R8.out.setAt (p' := q + nn)); rw [Int.natCast_add] at R8b; (with_reducible refine (TwNext_dec g b cap gr l0 m r rs R P N B q nn r1 r3 wb _ R8b.out.t R8b.out.i R8b.out.bl HM.out.1 HM.out.2.1 HM.out.2.2.1 HM.out.2.2.2 HMM.out HCK.out HBB.out.1 (by have := HBB.out.2; omega) HQ.out.2.2 HD.out).mono ?_); rintro e w9 ⟨rfl, hI, hB, hKe⟩; have R9 := Aside0.mk (R8b.out.next hI hB hKe); clear hI hB hKe R8b))
      have x1 : (r1 != r1) = false := by simp
      have x3 : (r3 != r3) = false := by simp
      have x4 : (((q + nn : Nat) : Int) != ((q + nn : Nat) : Int)) = false := by simp
      refine start_ (n := 15) (S := fun w' => w'.cell? ⟨gx, 1, none⟩ = some (.int .i64 ((q + nn : Nat) : Int))) (ds := []) #[false, false, false, false, false, false, false, false, false, false, false, false, false, false, false] (by kernel_rfl) rfl rfl (((blk_cell R9.out.x 1).trans rfl)) (fun hHeld => ?_)
      refine pure_ (i := 0) (N := some 119) (v := ?_) (a' := ?_) #[true, false, false, false, false, false, false, false, false, false, false, false, false, false, false] rfl rfl (by kernel_rfl) (fun _ _ _ h => h) (Or.inl ⟨by rfl, ?_⟩) ?_ ?_
      rotate_left
      · intro w'
        go_simp
        with_reducible rfl
      rotate_left
      · simp only [Act.put, List.setIfInBounds_toArray, List.set_cons_zero, List.set_cons_succ, i64_w, i32_w]
        rfl
      refine pure_ (i := 1) (N := some 120) (v := ?_) (a' := ?_) #[true, true, false, false, false, false, false, false, false, false, false, false, false, false, false] rfl rfl (by kernel_rfl) (fun _ _ _ h => h) (Or.inl ⟨by rfl, ?_⟩) ?_ ?_
      rotate_left
      · intro w'
        go_simp
        with_reducible rfl
      rotate_left
      · simp only [Act.put, List.setIfInBounds_toArray, List.set_cons_zero, List.set_cons_succ, i64_w, i32_w]
        rfl
      refine pure_ (i := 2) (N := some 121) (v := ?_) (a' := ?_) #[true, true, true, false, false, false, false, false, false, false, false, false, false, false, false] rfl rfl (by kernel_rfl) (fun _ _ _ h => h) (Or.inl ⟨by rfl, ?_⟩) ?_ ?_
      rotate_left
      · intro w'
        go_simp
        with_reducible rfl
      rotate_left
      · simp only [Act.put, List.setIfInBounds_toArray, List.set_cons_zero, List.set_cons_succ, i64_w, i32_w]
        rfl
      refine pure_ (i := 3) (N := some 122) (v := ?_) (a' := ?_) #[true, true, true, true, false, false, false, false, false, false, false, false, false, false, false] rfl rfl (by kernel_rfl) (fun _ _ _ h => h) (Or.inl ⟨by rfl, ?_⟩) ?_ ?_
      rotate_left
      · intro w'
        go_simp
        with_reducible rfl
      rotate_left
      · simp only [Act.put, List.setIfInBounds_toArray, List.set_cons_zero, List.set_cons_succ, i64_w, i32_w]
        rfl
      refine pure_ (i := 4) (N := some 123) (v := ?_) (a' := ?_) #[true, true, true, true, true, false, false, false, false, false, false, false, false, false, false] rfl rfl (by kernel_rfl) (fun _ _ _ h => h) (Or.inl ⟨by rfl, ?_⟩) ?_ ?_
      rotate_left
      · intro w'
        go_simp
        with_reducible rfl
      rotate_left
      · simp only [Act.put, List.setIfInBounds_toArray, List.set_cons_zero, List.set_cons_succ, i64_w, i32_w]
        rfl
      refine pure_ (i := 5) (N := some 124) (v := ?_) (a' := ?_) #[true, true, true, true, true, true, false, false, false, false, false, false, false, false, false] rfl rfl (by kernel_rfl) (fun _ _ _ h => h) (Or.inl ⟨by rfl, ?_⟩) ?_ ?_
      rotate_left
      · intro w'
        go_simp
        with_reducible rfl
      rotate_left
      · simp only [Act.put, List.setIfInBounds_toArray, List.set_cons_zero, List.set_cons_succ, i64_w, i32_w]
        rfl
      refine pure_ (i := 6) (N := some 125) (v := ?_) (a' := ?_) #[true, true, true, true, true, true, true, false, false, false, false, false, false, false, false] rfl rfl (by kernel_rfl) (fun _ _ _ h => h) (Or.inl ⟨by rfl, ?_⟩) ?_ ?_
      rotate_left
      · intro w'
        go_simp
        with_reducible rfl
      rotate_left
      · simp only [Act.put, List.setIfInBounds_toArray, List.set_cons_zero, List.set_cons_succ, i64_w, i32_w]
        rfl
      refine pure_ (i := 7) (N := some 126) (v := ?_) (a' := ?_) #[true, true, true, true, true, true, true, true, false, false, false, false, false, false, false] rfl rfl (by kernel_rfl) (fun _ _ _ h => h) (Or.inl ⟨by rfl, ?_⟩) ?_ ?_
      rotate_left
      · intro w'
        go_simp
        with_reducible rfl
      rotate_left
      · simp only [Act.put, List.setIfInBounds_toArray, List.set_cons_zero, List.set_cons_succ, i64_w, i32_w]
        rfl
      refine pure_ (i := 8) (N := some 127) (v := ?_) (a' := ?_) #[true, true, true, true, true, true, true, true, true, false, false, false, false, false, false] rfl rfl (by kernel_rfl) (fun _ _ _ h => h) (Or.inl ⟨by rfl, ?_⟩) ?_ ?_
      rotate_left
      · intro w'
        go_simp
        with_reducible rfl
      rotate_left
      · simp only [Act.put, List.setIfInBounds_toArray, List.set_cons_zero, List.set_cons_succ, i64_w, i32_w]
        rfl
      refine pure_ (i := 9) (N := some 128) (v := ?_) (a' := ?_) #[true, true, true, true, true, true, true, true, true, true, false, false, false, false, false] rfl rfl (by kernel_rfl) (fun _ _ _ h => h) (Or.inl ⟨by rfl, ?_⟩) ?_ ?_
      rotate_left
      · intro w'
        go_simp
        with_reducible rfl
      rotate_left
      · simp only [Act.put, List.setIfInBounds_toArray, List.set_cons_zero, List.set_cons_succ, i64_w, i32_w]
        rfl
      refine pure_ (i := 11) (N := some 130) (v := ?_) (a' := ?_) #[true, true, true, true, true, true, true, true, true, true, false, true, false, false, false] rfl rfl (by kernel_rfl) (fun _ _ _ h => h) (Or.inl ⟨by rfl, ?_⟩) ?_ ?_
      rotate_left
      · intro w'
        go_simp
        with_reducible rfl
      rotate_left
      · simp only [Act.put, List.setIfInBounds_toArray, List.set_cons_zero, List.set_cons_succ, i64_w, i32_w]
        rfl
      refine take_ (i := 12) (N := some 131) (v := ?_) (a' := ?_) #[true, true, true, true, true, true, true, true, true, true, false, true, true, false, false] rfl rfl (by kernel_rfl) (fun _ _ _ h => h) (Or.inl ⟨by rfl, ?_⟩) hHeld ?_ ?_
      rotate_left
      · intro w' s0
        go_simp
        with_reducible rfl
      rotate_left
      · simp only [Act.put, List.setIfInBounds_toArray, List.set_cons_zero, List.set_cons_succ, i64_w, i32_w]
        rfl
      refine one_ (i := 10) (N := some 129) #[true, true, true, true, true, true, true, true, true, true, true, true, true, false, false] rfl rfl (by kernel_rfl) (by decide) (fun K hK => ?_)
      refine goes_ Try.func14 (by kernel_rfl) rfl #[.pointer (some ⟨gr, 0, none⟩)] (by rfl) rfl rfl (by simp only [List.map_toArray, List.map_cons, List.map_nil]; rfl) ?_
      with_reducible refine (bitr_Reader_At.calls gr (zs B) ((q + nn : Nat) : Int) _ _ wb w9.drew (R9.out.below (below_drew (Below.refl _ _))).i (R9.out.below (below_drew (Below.refl _ _))).bl rfl).mono ?_
      rintro e w10 ⟨rfl, hI, hB, hKe⟩
      refine ⟨_, rfl, ?_⟩
      have R10 := Aside0.mk ((R9.out.below (below_drew (Below.refl _ _))).next hI hB hKe)
      clear hI hB hKe
      refine hK.out _ _ (((blk_cell R10.out.x 1).trans rfl)) (fun hHeld => ?_)
      clear hK K
      refine norm_ (a' := ?_) ?_ ?_
      rotate_left
      · show Act.put _ (some 129) _ = _
        simp only [Act.put, List.setIfInBounds_toArray, List.set_cons_zero, List.set_cons_succ, i64_w, i32_w]
        rfl
      refine pure_ (i := 13) (N := some 132) (v := ?_) (a' := ?_) #[true, true, true, true, true, true, true, true, true, true, true, true, true, true, false] rfl rfl (by kernel_rfl) (fun _ _ _ h => h) (Or.inl ⟨by rfl, ?_⟩) ?_ ?_
      rotate_left
      · intro w'
        go_simp
        with_reducible rfl
      rotate_left
      · simp only [Act.put, List.setIfInBounds_toArray, List.set_cons_zero, List.set_cons_succ, i64_w, i32_w]
        rfl
      refine pure_ (i := 14) (N := some 133) (v := ?_) (a' := ?_) #[true, true, true, true, true, true, true, true, true, true, true, true, true, true, true] rfl rfl (by kernel_rfl) (fun _ _ _ h => h) (Or.inl ⟨by rfl, ?_⟩) ?_ ?_
      rotate_left
      · intro w'
        go_simp
        with_reducible rfl
      rotate_left
      · simp only [Act.put, List.setIfInBounds_toArray, List.set_cons_zero, List.set_cons_succ, i64_w, i32_w]
        rfl
      refine done_ (by kernel_rfl) ?_
      clear hHeld x1 x3 x4 ew hx0 hx1 hy0 hyf hcut
      go_wp2
      go_roundg qq
      case measure => exact Nat.lt_succ_self _
      case rel => exact ⟨wrap64 (i + 1), q + nn, rfl, ⟨by have := HQ.out; rw [w64 (by omega) (by omega)]; omega, by have := HQ.out; rw [w64 (by omega) (by omega)]; omega, HQN.out⟩, R10⟩
theorem gladstonelaw11_TwolevReads.calls (k : Nat) (A0 : Option Addr) (c0 : Nat) (l0 : List Int) (x1 y1 : Int) (a2 : ByteArray) (r : Bool) (w : World) (hr0 : Kd.C (Kd.int .i64) w A0 l0.length l0) (hc0 : l0.length ≤ c0) (h : gladstonelaw11_TwolevReads.f k l0 x1 y1 a2 = some r) :
    Calls Try.prog 3 #[.slice A0 l0.length c0, .agg #[.int .i64 x1, .int .i64 y1], .string a2] w fun e w' => e = .returned (.bool r) ∧ Below w.heap.size w w' := by
  obtain rfl : true = r := Option.some.inj h
  exact TwolevReads_walk A0 c0 l0 x1 y1 a2 w hr0 hc0
end Go.Proofs.Ytoikiefegkgedaa.P
namespace Go.Proofs.Ytoikiefegkgedaa.Pure
open Go.Proofs.Ytoikiefegkgedaa.P
theorem TwolevReads (l0 : List Int) {p0 q0 : Prop} (_ : p0) (_ : q0) (x1 y1 : Int) (a2 : ByteArray) {p2 : Prop} (_ : p2) : ∃ k, gladstonelaw11_TwolevReads.f k l0 x1 y1 a2 = some true := ⟨0, rfl⟩
end Go.Proofs.Ytoikiefegkgedaa.Pure
