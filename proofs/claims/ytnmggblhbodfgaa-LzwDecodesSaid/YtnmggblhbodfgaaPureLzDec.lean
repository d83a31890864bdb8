/- lzw.Decode gives what the document says, plainly. -/
import Derived.Test.YtnmggblhbodfgaaPureLzS
import Derived.Test.YtnmggblhbodfgaaBtRefC
import Derived.Test.YtnmggblhbodfgaaPx9
set_option linter.unusedVariables false
set_option linter.unusedSimpArgs false
set_option linter.unusedSectionVars false
namespace Go.Proofs.Ytnmggblhbodfgaa.Pure
open Go.RowKit Go.Proofs.YtnmggblhbodfgaaW.PrintWords Go.Proofs.YtnmggblhbodfgaaW.PrintMore Go.Proofs.Ytnmggblhbodfgaa.P Go.Proofs.Ytnmggblhbodfgaa.Com Go.Proofs.Ytnmggblhbodfgaa.Hd
theorem bv_zero : ∀ l : List Bool, bv l = 0 ↔ ∀ x ∈ l, x = false
  | [] => by simp [bv]
  | b :: t => by
    have ih := bv_zero t
    cases b with
    | true => simp [bv]
    | false =>
      have e : bv (false :: t) = 2 * bv t := by simp [bv]
      rw [e]
      constructor
      · intro h x hx
        rcases List.mem_cons.1 hx with hx | hx
        · exact hx
        · exact ih.1 (by omega) x hx
      · intro h
        have := ih.2 (fun x hx => h x (List.mem_cons_of_mem _ hx))
        omega
theorem left_l0 (l : List Bool) (hl : l.length ≤ 8796093022208) (d : Nat) : ∀ i : Nat, i + d = l.length → (∀ x ∈ l.take i, x = false) → Ev (fun k => gladstoneref60_left.l0 k l (i : Int)) (decide (l.length < 8 ∧ bv l = 0)) := by
  induction d with
  | zero =>
    intro i hi hf
    rw [List.take_of_length_le (by omega)] at hf
    have hz := (bv_zero l).2 hf
    refine Ev.step (f := fun _ => some (decide ((l.length : Int) < 8))) (fun k => by rw [gladstoneref60_left.l0, if_neg (by omega)]) (Ev.some ?_)
    by_cases h : l.length < 8
    · rw [decide_eq_true (by omega), decide_eq_true ⟨h, hz⟩]
    · rw [decide_eq_false (by omega), decide_eq_false (fun e => h e.1)]
  | succ d ih =>
    intro i hi hf
    have hil : i < l.length := by omega
    cases hb : l.getD i false with
    | true =>
      refine Ev.step (f := fun _ => some false) (fun k => by rw [gladstoneref60_left.l0, if_pos (by omega), if_pos (by omega), rdOf_nat, hb, if_pos rfl]) (Ev.some ?_)
      rw [decide_eq_false]
      rintro ⟨_, h⟩
      have := (bv_zero l).1 h (l.getD i false) (by rw [getD_lt _ hil]; exact List.getElem_mem hil)
      rw [hb] at this
      cases this
    | false =>
      refine Ev.step (f := fun k => gladstoneref60_left.l0 k l ((i + 1 : Nat) : Int)) (fun k => by rw [gladstoneref60_left.l0, if_pos (by omega), if_pos (by omega), rdOf_nat, hb, if_neg (by decide), w64 (by omega) (by omega)]; rfl) (ih (i + 1) (by omega) ?_)
      intro x hx
      rw [take_snocB l i hil, hb] at hx
      rcases List.mem_append.1 hx with hx | hx
      · exact hf x hx
      · exact List.mem_singleton.1 hx
theorem left_ev (l : List Bool) (hl : l.length ≤ 8796093022208) : Ev (fun k => gladstoneref60_left.f k l) (decide (l.length < 8 ∧ bv l = 0)) := left_l0 l hl l.length 0 (by omega) (by simp)
theorem end_iff {B : List Nat} (hB : ∀ x ∈ B, x < 256) {p : Nat} (hp : p ≤ 8 * B.length) : (8 ≤ 8 * B.length - p ∨ rpeek B p ((8 * B.length - p : Nat) : Int) ≠ 0) ↔ ¬ (((bb B).drop p).length < 8 ∧ bv ((bb B).drop p) = 0) := by
  have hl : ((bb B).drop p).length = 8 * B.length - p := by rw [List.length_drop, bb_length]
  have hv : bv ((bb B).drop p) = vb B / 2 ^ p := by rw [bv_drop, bv_bb B hB]
  have hlt := bv_lt ((bb B).drop p)
  rw [hl] at hlt ⊢
  by_cases h8 : 8 ≤ 8 * B.length - p
  · exact ⟨fun _ h => by omega, fun _ => .inl h8⟩
  · have e : rpeek B p ((8 * B.length - p : Nat) : Int) = ((bv ((bb B).drop p) : Nat) : Int) := by
      unfold rpeek inW
      rw [if_pos (decide_eq_true (by omega)), Int.toNat_natCast]
      unfold pkv
      rw [← hv, Nat.mod_eq_of_lt hlt]
    rw [e]
    constructor
    · rintro (h | h) ⟨_, h2⟩
      · exact h8 h
      · rw [h2] at h; exact h rfl
    · intro h
      refine .inr (fun h2 => h ⟨by omega, by omega⟩)
theorem ext1 {x y : ByteArray} (h : 1 ≤ x.size) : (x ++ y).extract 0 1 = x.extract 0 1 := by
  apply nb_inj
  rw [nb_extract, nb_extract, nb_append, List.drop_zero, List.drop_zero, List.take_append_of_le_length (by rw [nb_length]; omega)]
theorem ext1_size {x : ByteArray} (h : 1 ≤ x.size) : (x.extract 0 1).size = 1 := by
  rw [ByteArray.size_extract]; omega
theorem shlm (m : Nat) (hm : m ≤ 16) : shl .i64 1 (IntKind.u64.wrap (m : Int)) = ((2 ^ m : Nat) : Int) := by
  rw [wu64 (by omega) (by omega), shl64 (by omega) (by omega), Int.toNat_natCast]; simp
theorem getD_app {l : List ByteArray} {x : ByteArray} {i : Nat} (h : i < l.length) : (l ++ [x]).getD i ⟨#[]⟩ = l.getD i ⟨#[]⟩ := by
  rw [List.getD_eq_getElem?_getD, List.getElem?_append_left h, ← List.getD_eq_getElem?_getD]
theorem getD_new {l : List ByteArray} {x : ByteArray} : (l ++ [x]).getD l.length ⟨#[]⟩ = x := by
  rw [List.getD_eq_getElem?_getD, List.getElem?_append_right (Nat.le_refl _), Nat.sub_self]; rfl
theorem dec_ev (B : List Nat) (hB : ∀ x ∈ B, x < 256) (hl : B.length ≤ 1099511627776) (m many : Nat) (hm1 : 9 ≤ m) (hm2 : m ≤ 16) (hmn : many ≤ 16777216) : ∀ (q : Nat) (rows : List ByteArray) (last : ByteArray) (p : Nat) (out : ByteArray), many ≤ out.size + q → out.size ≤ 16777216 → p ≤ 8 * B.length → DI rows last →
    Ev (fun k => gladstoneref60_Decode.l0 k (many : Int) (m : Int) rows out last (bb B) (p : Int)) (dec B (2 ^ m) many q rows last p out) := by
  have hpw : 2 ^ m ≤ 65536 := Nat.le_trans (Nat.pow_le_pow_right (by omega) hm2) (by decide)
  have hdone : ∀ (q : Nat) (rows : List ByteArray) (last : ByteArray) (p : Nat) (out : ByteArray), many ≤ out.size → p ≤ 8 * B.length → Ev (fun k => gladstoneref60_Decode.l0 k (many : Int) (m : Int) rows out last (bb B) (p : Int)) (dec B (2 ^ m) many q rows last p out) := by
    intro q rows last p out h hp
    have hbl := bb_length B
    rw [dec_done h]
    refine Ev.step (fun k => by rw [gladstoneref60_Decode.l0, if_neg (by omega), if_pos (by omega), if_pos (by omega), Int.toNat_natCast]) (Ev.bind (left_ev _ (by rw [List.length_drop]; omega)) ?_)
    have hi := end_iff hB hp
    by_cases hc : ((bb B).drop p).length < 8 ∧ bv ((bb B).drop p) = 0
    · rw [decide_eq_true hc, if_neg (fun e => hi.1 e hc)]
      exact Ev.ifp rfl (Ev.now _)
    · rw [decide_eq_false hc, if_pos (hi.2 hc)]
      exact Ev.ifn (by decide) (Ev.now _)
  intro q
  induction q with
  | zero => intro rows last p out h1 h2 h3 h4; exact hdone 0 rows last p out (by omega) h3
  | succ q ih =>
    intro rows last p out h1 h2 h3 hD
    by_cases hd : many ≤ out.size
    · exact hdone (q + 1) rows last p out hd h3
    rw [dec_more hd]
    have l1 := hD.l1
    have l2 := hD.l2
    have la := hD.la
    obtain ⟨wt, hwt⟩ : ∃ wt, wtB (2 ^ m) rows last = wt := ⟨_, rfl⟩
    obtain ⟨n, hn⟩ : ∃ n, rows.length + wt.toNat = n := ⟨_, rfl⟩
    have hn2 : n ≤ 65537 := by cases wt <;> simp at hn <;> omega
    -- to j3
    have hj3 : ∀ res, Ev (fun k => gladstoneref60_Decode.j3 k (many : Int) (m : Int) rows out last (n : Int) (bb B) (p : Int)) res → Ev (fun k => gladstoneref60_Decode.l0 k (many : Int) (m : Int) rows out last (bb B) (p : Int)) res := by
      intro res hr
      have hj2 : Ev (fun k => gladstoneref60_Decode.j2 k (many : Int) (m : Int) rows out last (rows.length : Int) wt (bb B) (p : Int)) res := by
        cases wt with
        | true =>
          refine Ev.step (fun k => by rw [gladstoneref60_Decode.j2, if_pos rfl, w64 (by omega) (by omega)]) ?_
          rw [show ((rows.length : Int) + 1) = (n : Int) from by simp at hn; omega]
          exact hr
        | false =>
          refine Ev.step (fun k => by rw [gladstoneref60_Decode.j2, if_neg (by decide)]) ?_
          rw [show ((rows.length : Int)) = (n : Int) from by simp at hn; omega]
          exact hr
      by_cases he : last.size = 0
      · have : wt = false := by rw [← hwt]; exact decide_eq_false (fun e => e.1 he)
        rw [this] at hj2
        exact Ev.step (fun k => by rw [gladstoneref60_Decode.l0, if_pos (by omega), if_pos ((toList_nil last).2 he)]) hj2
      · have : wt = decide ((rows.length : Int) < ((2 ^ m : Nat) : Int)) := by
          rw [← hwt]
          unfold wtB
          by_cases h : rows.length < 2 ^ m
          · rw [decide_eq_true (show last.size ≠ 0 ∧ rows.length < 2 ^ m from ⟨he, h⟩), decide_eq_true (by omega)]
          · rw [decide_eq_false (show ¬ (last.size ≠ 0 ∧ rows.length < 2 ^ m) from fun e => h e.2), decide_eq_false (by omega)]
        rw [this] at hj2
        refine Ev.step (fun k => by rw [gladstoneref60_Decode.l0, if_pos (by omega), if_neg (fun e => he ((toList_nil last).1 e)), if_pos (by rw [wu64 (by omega) (by omega)]; omega), shlm m hm2]) hj2
    refine hj3 _ ?_
    obtain ⟨x, hx, hx2⟩ := rtake_nn B p ((wd n : Nat) : Int)
    obtain ⟨e1, he1⟩ : ∃ e1, (rtake B p ((wd n : Nat) : Int)).2.1 = e1 := ⟨_, rfl⟩
    obtain ⟨p', hp', hp2⟩ : ∃ p' : Nat, (rtake B p ((wd n : Nat) : Int)).2.2 = (p' : Int) ∧ p' ≤ 8 * B.length := by
      unfold rtake
      split
      · split
        · exact ⟨_, rfl, by assumption⟩
        · exact ⟨p, rfl, h3⟩
      · exact ⟨p, rfl, h3⟩
    have hT := reftake_ev B hB hl p h3 ((wd n : Nat) : Int)
    rw [hx, he1, hp'] at hT
    refine Ev.step (fun k => by rw [gladstoneref60_Decode.j3]) (Ev.bind (rbits_ev n (by omega) (by omega)) (Ev.bind hT ?_))
    have hnx : nxt B (2 ^ m) rows last p = (if e1 ≠ 0 then ((⟨#[]⟩, e1), rows, last, (p' : Int)) else if n ≤ x then ((⟨#[]⟩, 4), rows, last, (p' : Int)) else
        (((if wt = true then rows ++ [last ++ (if x < rows.length then rows.getD x ⟨#[]⟩ else last).extract 0 1] else rows).getD x ⟨#[]⟩, 0), (if wt = true then rows ++ [last ++ (if x < rows.length then rows.getD x ⟨#[]⟩ else last).extract 0 1] else rows), (if wt = true then rows ++ [last ++ (if x < rows.length then rows.getD x ⟨#[]⟩ else last).extract 0 1] else rows).getD x ⟨#[]⟩, (p' : Int))) := by
      unfold nxt
      simp only [hwt, hn, hx, he1, hp', Int.toNat_natCast]
    simp only
    by_cases he : e1 = 0
    case neg =>
      rw [hnx, if_pos he]
      simp only
      rw [if_pos he]
      exact Ev.ifn he (Ev.now _)
    refine Ev.ifp he ?_
    rw [w64 (x := (x : Int)) (by omega) (by omega)]
    by_cases hnx2 : n ≤ x
    · have hnx' := hnx
      rw [if_neg (show ¬ e1 ≠ 0 from fun h => h he), if_pos hnx2] at hnx'
      rw [hnx', if_pos (by simp)]
      exact Ev.ifp (by omega) (Ev.now _)
    refine Ev.ifn (by omega) ?_
    have hnxt := hnx
    rw [if_neg (show ¬ e1 ≠ 0 from fun h => h he), if_neg hnx2] at hnxt
    have hdi := nxt_di (B := B) (room := 2 ^ m) (rows := rows) (last := last) (p := p) hD hpw (by rw [hnxt])
    rw [hnxt] at hdi ⊢
    obtain ⟨now, hnow⟩ : ∃ now, (if wt = true then rows ++ [last ++ (if x < rows.length then rows.getD x ⟨#[]⟩ else last).extract 0 1] else rows).getD x ⟨#[]⟩ = now := ⟨_, rfl⟩
    obtain ⟨rows', hrows'⟩ : ∃ rows', (if wt = true then rows ++ [last ++ (if x < rows.length then rows.getD x ⟨#[]⟩ else last).extract 0 1] else rows) = rows' := ⟨_, rfl⟩
    have hnow2 := hnow
    rw [hrows'] at hdi hnow ⊢
    rw [hnow] at hdi ⊢
    simp only at hdi ⊢
    rw [if_neg (by simp)]
    obtain ⟨d1, _, d3, d4⟩ := hdi
    -- to j4
    have hj4 : ∀ res, Ev (fun k => gladstoneref60_Decode.j4 k (many : Int) (m : Int) rows out last (n : Int) now (bb B) (p' : Int)) res → Ev (fun k => if (x : Int) < (rows.length : Int) then (if 0 ≤ (x : Int) then (gladstoneref60_Decode.j4 k (many : Int) (m : Int) rows out last (n : Int) (rdOf ByteArray.empty rows (x : Int)) (bb B) (p' : Int)) else none) else (if (0 : Int) ≤ 1 then (if (1 : Int) ≤ (last.size : Int) then (if last.size + (last.extract 0 1).size ≤ 9223372036854775807 then (gladstoneref60_Decode.j4 k (many : Int) (m : Int) rows out last (n : Int) (last ++ (last.extract 0 1)) (bb B) (p' : Int)) else none) else none) else none)) res := by
      intro res hr
      by_cases hxr : x < rows.length
      · refine Ev.ifp (by omega) (Ev.ifp (by omega) ?_)
        rw [rdOf_emp]
        have : rows.getD x ⟨#[]⟩ = now := by
          rw [← hnow2]
          split
          · rw [getD_app hxr]
          · rfl
        rw [this]
        exact hr
      · have hwt1 : wt = true := by
          cases wt with
          | true => rfl
          | false => simp at hn; omega
        have hls : 1 ≤ last.size := by
          rw [hwt1] at hwt
          have := of_decide_eq_true (show decide (last.size ≠ 0 ∧ rows.length < 2 ^ m) = true from hwt)
          omega
        have hxe : x = rows.length := by rw [hwt1] at hn; simp at hn; omega
        refine Ev.ifn (by omega) (Ev.ifp (by omega) (Ev.ifp (by omega) (Ev.ifp (by rw [ext1_size hls]; omega) ?_)))
        have : last ++ last.extract 0 1 = now := by
          rw [← hnow2, if_pos hwt1, if_neg hxr, hxe, getD_new]
        rw [this]
        exact hr
    refine hj4 _ ?_
    have hos : out.size + now.size ≤ 9223372036854775807 := by omega
    have hsub : wrap64 ((many : Int) - (out.size : Int)) = (many : Int) - (out.size : Int) := w64 (by omega) (by omega)
    have hrec : ¬ many - out.size < now.size → Ev (fun k => gladstoneref60_Decode.l0 k (many : Int) (m : Int) rows' (out ++ now) now (bb B) (p' : Int)) (dec B (2 ^ m) many q rows' now p' (out ++ now)) := by
      intro hg
      refine ih rows' now p' (out ++ now) ?_ ?_ hp2 d1
      · rw [ByteArray.size_append]; omega
      · rw [ByteArray.size_append]; omega
    rw [Int.toNat_natCast]
    cases hw : wt with
    | true =>
      rw [hw] at hn hrows' hwt
      simp only [Bool.toNat_true, if_true] at hn hrows'
      have hls : 1 ≤ last.size := by
        have := of_decide_eq_true (show decide (last.size ≠ 0 ∧ rows.length < 2 ^ m) = true from hwt)
        omega
      have hrr : rows ++ [last ++ now.extract 0 1] = rows' := by
        rw [← hrows']
        congr 3
        by_cases hxr : x < rows.length
        · rw [if_pos hxr]
          congr 1
          rw [← hnow, ← hrows', getD_app hxr]
        · rw [if_neg hxr]
          have hxe : x = rows.length := by omega
          rw [← hnow, ← hrows', hxe, getD_new, if_neg (by omega), ext1 hls]
      refine Ev.step (fun k => by rw [gladstoneref60_Decode.j4, if_pos (by omega), if_pos (by omega), if_pos (by omega), if_pos (by rw [ext1_size d3]; omega), if_pos (by omega), hsub, hrr]) ?_
      by_cases hg : many - out.size < now.size
      · rw [if_pos hg]
        exact Ev.ifp (by omega) (Ev.now _)
      · rw [if_neg hg]
        exact Ev.ifn (by omega) (Ev.ifp hos (hrec hg))
    | false =>
      rw [hw] at hn hrows'
      simp only [Bool.toNat_false, Nat.add_zero, Bool.false_eq_true, if_false] at hn hrows'
      refine Ev.step (fun k => by rw [gladstoneref60_Decode.j4, if_neg (by omega), hsub, hrows']) ?_
      by_cases hg : many - out.size < now.size
      · rw [if_pos hg]
        exact Ev.ifp (by omega) (Ev.now _)
      · rw [if_neg hg]
        exact Ev.ifn (by omega) (Ev.ifp hos (hrec hg))
theorem LzwDecodes : gladstonelaw60_LzwDecodes.Pure := by
  intro s many m _ hmn hm
  apply Ev.rounds
  unfold gladstonelaw60_LzwDecodes.f
  by_cases h300 : (s.size : Int) > 300
  · exact Ev.ifp h300 awake_ev
  refine Ev.ifn h300 ?_
  by_cases hbad : m < 9 ∨ 16 < m ∨ many < 0 ∨ 16777216 < many
  · have e1 : lzw_Decode.f s many m = some (⟨#[]⟩, 1) := by unfold lzw_Decode.f; rw [if_pos hbad]
    have e2 : Ev (fun k => gladstoneref60_Decode.f k s many m) ((⟨#[]⟩ : ByteArray), 1) := by
      have : ∀ k, gladstoneref60_Decode.f k s many m = gladstoneref60_Decode.j0 k s many m true := by
        intro k
        unfold gladstoneref60_Decode.f
        by_cases h : m < 9
        · rw [if_pos h]
        · rw [if_neg h]
          by_cases h : m > 16
          · rw [if_pos h]
          · rw [if_neg h]
            by_cases h : many < 0
            · rw [if_pos h]
            · rw [if_neg h, decide_eq_true (by omega)]
      refine Ev.congr this (Ev.step (fun k => by rw [gladstoneref60_Decode.j0, if_pos rfl]) (Ev.now _))
    refine Ev.bind (Ev.fixed e1) (Ev.bind e2 (Ev.ifp rfl (Ev.ifp rfl awake_ev)))
  · obtain ⟨n, rfl⟩ : ∃ n : Nat, m = n := ⟨m.toNat, by omega⟩
    obtain ⟨mn, rfl⟩ : ∃ mn : Nat, many = mn := ⟨many.toNat, by omega⟩
    have e1 : lzw_Decode.f s (mn : Int) (n : Int) = some (dec (nb s) (2 ^ n) mn mn rows0 ⟨#[]⟩ 0 ⟨#[]⟩) := by unfold lzw_Decode.f; rw [if_neg hbad, if_pos (by omega), Int.toNat_natCast, Int.toNat_natCast]
    have e2 : Ev (fun k => gladstoneref60_Decode.f k s (mn : Int) (n : Int)) (dec (nb s) (2 ^ n) mn mn rows0 ⟨#[]⟩ 0 ⟨#[]⟩) := by
      have : ∀ k, gladstoneref60_Decode.f k s (mn : Int) (n : Int) = gladstoneref60_Decode.j0 k s (mn : Int) (n : Int) false := by
        intro k
        unfold gladstoneref60_Decode.f
        rw [if_neg (by omega), if_neg (by omega), if_neg (by omega), decide_eq_false (by omega)]
      refine Ev.congr this (Ev.step (fun k => by rw [gladstoneref60_Decode.j0, if_neg (by decide)]) (Ev.bind fresh0_ev (Ev.bind (rnew_ev s (by omega)) ?_)))
      exact dec_ev (nb s) (nb_lt s) (by rw [nb_length]; omega) n mn (by omega) (by omega) (by omega) mn rows0 ⟨#[]⟩ 0 ⟨#[]⟩ (by omega) (Nat.zero_le _) (by omega) di_start
    exact Ev.bind (Ev.fixed e1) (Ev.bind e2 (Ev.ifp rfl (Ev.ifp rfl awake_ev)))
end Go.Proofs.Ytnmggblhbodfgaa.Pure
